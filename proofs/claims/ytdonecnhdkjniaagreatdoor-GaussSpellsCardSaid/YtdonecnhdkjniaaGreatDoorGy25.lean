/- Several texts in one: FRefDo, Longs, Argand, Ratio0, ArgandLaw. -/
import Derived.Test.YtdonecnhdkjniaaGreatDoorGy24
set_option maxRecDepth 100000
set_option maxHeartbeats 8000000
namespace Go.Proofs.YtdonecnhdkjniaaGreatDoor
open Go.RowKit


def X0.long (q : X0) : Bool := decide (2048 < q.n) || decide (2048 < q.m)
theorem long_a {q : X0} {b1 : Bool} {A1 : Option Addr} {n c9 : Nat} {b2 : Bool} {B1 : Option Addr} {m e9 : Nat} (h : ⟨b1, A1, n, c9, b2, B1, m, e9⟩ = q) : q.long = (decide (2048 < n) || decide (2048 < m)) := by rw [<- h]; rfl

theorem ratio_LongL (l : List X0) (A : Option Addr) (c : Nat) (hl : l.length <= 9223372036854775807) (hs : ∀ q ∈ l, q.n <= 9223372036854775807 /\ q.m <= 9223372036854775807) (w : World) (h : ZL w w.heap.size 4 A l.length (cellsF l)) :
   Calls Tryz.prog 183 #[.slice A l.length c] w fun e w' => e = .returned (.bool (l.any X0.long)) /\ Below w.heap.size w w' := by
 have HR := Hd h
 have HS := Hd hs
 clear h hs
 have H0 := Hd (by intro j hj; omega : ∀ j (_ : j < 0), (h : j < l.length) -> l[j].long = false)
 go_enter Tryz.func183, Tryz.ntmps183
 go_wp2_with fail
 go_loopw [7] (fun s wr => ∃ i : Nat, s = .int .i64 i /\ i <= l.length /\ Hid (∀ j (_ : j < i), (h : j < l.length) -> l[j].long = false) /\ Below w.heap.size w wr) (fun s _ => l.length - (intOf s).toNat)
 case atStart => exact ⟨0, rfl, Nat.zero_le _, H0, Below.refl _ _⟩
 case round =>
   obtain ⟨i, rfl, hi, HN, hb⟩ := hrel
   clear H0
   by_cases hlt : i < l.length
   . have a0 : (0 : Int) <= (i : Int) := by omega
     have a1 : (i : Int) < (l.length : Int) := by omega
     obtain ⟨e0, e1, e2, e3⟩ := cellsF_get l i hlt
     obtain ⟨ad, rfl, hbl, c0, c1, c2, c3⟩ := (HR.out.below hb).row4 hlt e0 e1 e2 e3
     obtain ⟨h1, h2⟩ := HS.out _ (List.getElem_mem hlt)
     have HB := Hd hb
     have HE := Hd (And.intro e0 (And.intro e1 (And.intro e2 e3)))
     clear e0 e1 e2 e3 hbl hb
     obtain ⟨q, hq⟩ : ∃ q, q = l[i] := ⟨_, rfl⟩
     have HQ := Hd hq
     rw [<- hq] at c0 c1 c2 c3 h1 h2
     clear hq
     obtain ⟨b1, A1, n, c9, b2, E1, m, e9⟩ := q
     simp only at c0 c1 c2 c3 h1 h2
     have C1 := fun (V : World) (g' : Nat) (hg : V.heap.size = g') => flong_one b1 A1 n c9 h1 V g' hg
     have C2 := fun (V : World) (g' : Nat) (hg : V.heap.size = g') => flong_one b2 E1 m e9 h2 V g' hg
     have HL := Hd (long_a HQ.out)
     clear h1 h2
     by_cases hn : 2048 < n
     . rw [decide_eq_true hn] at C1
       have HL := Hd (show l[i].long = true from by rw [HL.out, decide_eq_true hn]; rfl)
       have H1 := Hd C1
       clear C1 C2 hn
       go_wp2_with (go_at_call 223; with_reducible refine (H1.out _ _ (by simp)).mono ?_; rintro e w1 ⟨rfl, hb1⟩; have q4 := ((Zw.new wr (.bool b1) (.slice A1 n c9) (.bool b2) (.slice E1 m e9)).alloc (.cells #[.bool b1, .slice A1 n c9] 24)).below hb1; have B1 := Zb ((HB.out.alloc HB.out.size _).alloc (by simp; have := HB.out.size; omega) _) hb1; obtain ⟨l4, y0, y1, y2, y3, -, -, -, -⟩ := q4.facts)
       go_ret
       have e : l.any X0.long = true := List.any_eq_true.2 ⟨l[i], List.getElem_mem hlt, HL.out⟩
       exact ⟨by rw [e]; rfl, B1⟩
     . rw [decide_eq_false hn] at C1
       have H1 := Hd C1
       by_cases hm : 2048 < m
       . rw [decide_eq_true hm] at C2
         have HL := Hd (show l[i].long = true from by rw [HL.out, decide_eq_true hm, Bool.or_true])
         have H2 := Hd C2
         clear C1 C2 hn hm
         go_wp2_with (first | (go_at_call 223; with_reducible refine (H1.out _ _ (by simp)).mono ?_; rintro e w1 ⟨rfl, hb1⟩; have q4 := ((Zw.new wr (.bool b1) (.slice A1 n c9) (.bool b2) (.slice E1 m e9)).alloc (.cells #[.bool b1, .slice A1 n c9] 24)).below hb1; have B1 := Zb ((HB.out.alloc HB.out.size _).alloc (by simp; have := HB.out.size; omega) _) hb1; obtain ⟨l4, y0, y1, y2, y3, -, -, -, -⟩ := q4.facts) | (go_at_call 223; with_reducible refine (H2.out _ _ rfl).mono ?_; rintro e w2 ⟨rfl, hb2⟩; have B2 := Zb (B1.alloc B1.size _) hb2))
         go_ret
         have e : l.any X0.long = true := List.any_eq_true.2 ⟨l[i], List.getElem_mem hlt, HL.out⟩
         exact ⟨by rw [e]; rfl, B2⟩
       . rw [decide_eq_false hm] at C2
         have HL := Hd (show l[i].long = false from by rw [HL.out, decide_eq_false hn, decide_eq_false hm]; rfl)
         have H2 := Hd C2
         clear C1 C2 hn hm
         go_wp2_with (first | (go_at_call 223; with_reducible refine (H1.out _ _ (by simp)).mono ?_; rintro e w1 ⟨rfl, hb1⟩; have q4 := ((Zw.new wr (.bool b1) (.slice A1 n c9) (.bool b2) (.slice E1 m e9)).alloc (.cells #[.bool b1, .slice A1 n c9] 24)).below hb1; have B1 := Zb ((HB.out.alloc HB.out.size _).alloc (by simp; have := HB.out.size; omega) _) hb1; obtain ⟨l4, y0, y1, y2, y3, -, -, -, -⟩ := q4.facts) | (go_at_call 223; with_reducible refine (H2.out _ _ rfl).mono ?_; rintro e w2 ⟨rfl, hb2⟩; have B2 := Zb (B1.alloc B1.size _) hb2))
         go_roundw
         case rel =>
           refine ⟨i + 1, by go_num, hlt, Hd fun j hj h => ?_, B2⟩
           rcases (by omega : j < i ∨ j = i) with hj | rfl
           . exact HN.out j hj h
           . exact HL.out
         case measure => simp [intOf]; omega
   . have HB := Hd hb
     clear hb
     go_wp2_with fail
     go_ret
     have e : l.any X0.long = false := List.any_eq_false.2 fun x hx => by
       obtain ⟨j, hj, rfl⟩ := List.getElem_of_mem hx
       rw [HN.out j (by omega) hj]
       decide
     exact ⟨by rw [e]; rfl, HB.out⟩

theorem allocFracG {o : Oper} (h : o.op = .alloc 26) : AllocF Tryz.prog o 26 4 := by
 refine ⟨#[.bool false, .slice none 0 0, .bool false, .slice none 0 0], rfl, fun ρ w => ?_⟩
 unfold execOp
 rw [h]
 kernel_rfl
theorem gaussInfo : (Tryz.prog.info? 28).map (·.size) = some 8 := by kernel_rfl
abbrev OpW (w : World) (F : FuncId) (cap : Value) (n d m f N D : Int) : Prop := ∀ (V : World), Below w.heap.size w V -> ∀ (v1 v2 : Value), ZV V v1 n d -> ZV V v2 m f -> Calls Tryz.prog F #[v1, v2, cap] V (ZE V.heap.size V N D)

theorem each_Scaled {n d m f p q r s N D M E : Int} {cap : Value}  (w : World) (v_x v_y : Value) (g_x : Zi w v_x n d m f) (g_y : Zi w v_y p q r s) (C1 : OpW w 236 cap n d p q N D) (C2 : OpW w 236 cap m f r s M E) :
   Calls Tryz.prog 235 #[v_x, v_y, .func (.func 236) #[] #[cap]] w (Zo w.heap.size w N D M E) := by
 obtain ⟨Ax1, cx1, Ax2, cx2, Ax3, cx3, Ax4, cx4, rfl, -⟩ := g_x.form
 obtain ⟨Ay1, cy1, Ay2, cy2, Ay3, cy3, Ay4, cy4, rfl, -⟩ := g_y.form
 have H1 := Hd C1
 have H2 := Hd C2
 clear C1 C2
 have G_x := Hd g_x
 have G_y := Hd g_y
 clear g_x g_y
 go_enter Tryz.func235, Tryz.ntmps235
 go_upto_region 1 with fail
 refine boxes3 (P := fun W => Code.wp _ _ _ _ W) fun W p0 p1 p2 b0 => ?_
 have P_x := Hd (ZX.mk p0)
 have P_y := Hd (ZX.mk p1)
 have PR := Hd (ZX.mk p2)
 have HB := Hd b0
 clear b0 p0 p1 p2
 have hsz := PR.out.blk.lt
 go_wp2_with fail
 refine Zf [.val (.func (.func 236) #[] #[cap]) [], .val (.pointer (some ⟨w.heap.size, 0, none⟩)) [], .val (.agg #[.bool (decide (n < 0)), .slice Ax1 (Za n.natAbs).length cx1, .bool (decide (d < 0)), .slice Ax2 (Za d.natAbs).length cx2]) [], .val (.pointer (some ⟨w.heap.size + 1, 0, none⟩)) [], .val (.agg #[.bool (decide (p < 0)), .slice Ay1 (Za p.natAbs).length cy1, .bool (decide (q < 0)), .slice Ay2 (Za q.natAbs).length cy2]) [], .any true (fun u V => Ze V w.heap.size u N D) [], .val (.func (.func 236) #[] #[cap]) [], .val (.pointer (some ⟨w.heap.size, 4, none⟩)) [], .val (.agg #[.bool (decide (m < 0)), .slice Ax3 (Za m.natAbs).length cx3, .bool (decide (f < 0)), .slice Ax4 (Za f.natAbs).length cx4]) [], .val (.pointer (some ⟨w.heap.size + 1, 4, none⟩)) [], .val (.agg #[.bool (decide (r < 0)), .slice Ay3 (Za r.natAbs).length cy3, .bool (decide (s < 0)), .slice Ay4 (Za s.natAbs).length cy4]) [], .any true (fun u V => Ze V w.heap.size u M E) [], .any false (fun u V => Zk V w.heap.size u N D M E) [5, 11, 1005011], .old (w.heap.size + 1 + 1) 28 #[.bool false, .slice none 0 0, .bool false, .slice none 0 0, .bool false, .slice none 0 0, .bool false, .slice none 0 0] 0 8 12 []] (w.heap.size + 1 + 1) W [28] Yp _ Zg (by omega) (Below.refl _ _) (Zq.refl _ _ _) rfl ?_ ?_ ?_ ?_ ?_ ?_ ?_ ?_ rfl (by simp [ZH]) ?_ ?_ ?_ ?_
 iterate 8 kernel_rfl
 . simp only [Zu, and_true]
   exact ⟨fun u V V' h k => h.kept k (by decide), fun u V V' h k => h.kept k (by decide), fun u V V' h k => h.kept k (by decide)⟩
 . simp only [ZR, and_true]
   exact ⟨Nat.le_refl _, PR.out.blk.lt, PR.out.blk, by simp⟩
 . simp (maxSteps := 4000000) [Zz, Yj, Zh, ZA, Zl]
   repeat' (first | apply And.intro | (intro (u : Value)) | (intro (u : Nat)))
   all_goals try exact ⟨_, _, _, rfl, rfl, rfl, rfl, gaussInfo⟩
   all_goals first
   | (intro V hV hK
      have qx : ZX V (w.heap.size) _ _ _ _ _ _ _ _ _ := ⟨P_x.out.blk.below hV (by omega)⟩
      obtain ⟨-, x0, x1, x2, x3, x4, x5, x6, x7⟩ := qx.facts
      have qy : ZX V (w.heap.size + 1) _ _ _ _ _ _ _ _ _ := ⟨P_y.out.blk.below hV (by omega)⟩
      obtain ⟨-, y0, y1, y2, y3, y4, y5, y6, y7⟩ := qy.facts
      have hvb := HB.out.trans (hV.mono (by omega))
      have hvs := hvb.size
      have g_x := Hd (G_x.out.below hvb)
      have g_y := Hd (G_y.out.below hvb)
      clear hV hK qx qy
      go_simp
      first
      | exact Below.refl _ _
      | ((with_reducible refine (H1.out V hvb _ _ g_x.out.re g_y.out.re).mono ?_); rintro _ _ ⟨_, rfl, x, y⟩; exact ⟨x.base hvs, y, x.mine⟩)
      | ((with_reducible refine (H2.out V hvb _ _ g_x.out.im g_y.out.im).mono ?_); rintro _ _ ⟨_, rfl, x, y⟩; exact ⟨x.base hvs, y, x.mine⟩))
   | (intro V hV hK h1 h2 hq
      obtain ⟨A1, c1, B1, e1, rfl, -, -, -⟩ := h1.form
      obtain ⟨A2, c2, B2, e2, rfl, -, -, -⟩ := h2.form
      clear hV hK
      go_simp
      exact ⟨⟨_, _, _, _, _, _, _, _, rfl, h1, h2, hq⟩, Below.refl _ _⟩)
   | exact fun _ _ _ (h : Zk _ _ _ _ _ _ _) => h.cells
 . simp [Yn, ZD, Zh, ZA, Zl]
   intro u1 u2 u3 V hV hK h1 h2 h3 bq _ _ _
   have HF := Hd h3
   obtain ⟨A6, c6, A7, c7, A8, c8, A9, c9, rfl, -⟩ := h3.form
   simp [Z9, Value.cells] at bq
   have k0 := bq.cell 0
   have k1 := bq.cell 1
   have k2 := bq.cell 2
   have k3 := bq.cell 3
   have k4 := bq.cell 4
   have k5 := bq.cell 5
   have k6 := bq.cell 6
   have k7 := bq.cell 7
   simp at k0 k1 k2 k3 k4 k5 k6 k7
   have HB9 := Hd (HB.out.trans (hV.mono (by omega)))
   clear h1 h2 h3 hV hK bq
   go_wp2_with fail
   exact bodyPost_ret (by simp [results, Tryz.results235, go_sem, k0, k1, k2, k3, k4, k5, k6, k7]) rfl ⟨_, rfl, HF.out, HB9.out⟩

theorem scaled_clos0 {n d m f p q N D : Int} (C1 : OpR 199 n d p q N D) (w : World) (v_a v_b : Value) (g_a : ZV w v_a n d) (g_b : ZV w v_b m f) {g : Nat} {A3 A4 : Option Addr} {c3 c4 : Nat} (h_q : Zw w g (.bool (decide (p < 0))) (.slice A3 (Za p.natAbs).length c3) (.bool (decide (q < 0))) (.slice A4 (Za q.natAbs).length c4)) (g_q : ZV w (.agg #[.bool (decide (p < 0)), .slice A3 (Za p.natAbs).length c3, .bool (decide (q < 0)), .slice A4 (Za q.natAbs).length c4]) p q) :
  Calls Tryz.prog 236 #[v_a, v_b, .pointer (some ⟨g, 0, none⟩)] w (ZE w.heap.size w N D) := by
 obtain ⟨Aa1, ca1, Aa2, ca2, rfl, -⟩ := g_a.form
 obtain ⟨Ab1, cb1, Ab2, cb2, rfl, -⟩ := g_b.form
 have HQ0 := Hd h_q
 have GQ := Hd g_q
 clear h_q g_q
 have H1 := Hd C1
 clear C1
 have G_a := Hd g_a
 have G_b := Hd g_b
 clear g_a g_b
 go_enter Tryz.func236, Tryz.ntmps236
 go_upto_region 1 with fail
 refine boxes3 (P := fun W => Code.wp _ _ _ _ W) fun W p0 p1 p2 b0 => ?_
 have P_a := Hd (Zw.mk p0)
 have P_b := Hd (Zw.mk p1)
 have PR := Hd (Zw.mk p2)
 have HB := Hd b0
 clear b0 p0 p1 p2
 obtain ⟨l_q, q0, q1, q2, q3, -, -, -, -⟩ := (HQ0.out.below HB.out).facts
 obtain ⟨-, a_a0, a_a1, a_a2, a_a3, -, -, -, -⟩ := P_a.out.facts
 obtain ⟨-, a_b0, a_b1, a_b2, a_b3, -, -, -, -⟩ := P_b.out.facts
 go_wp2_with fail
 refine (H1.out W _ _ (G_a.out.below HB.out) (GQ.out.below HB.out)).mono ?_
 rintro e w9 ⟨v, rfl, hI, hb⟩
 clear a_a0 a_a1 a_a2 a_a3 a_b0 a_b1 a_b2 a_b3
 have HI := Hd hI
 obtain ⟨A6, c6, A7, c7, rfl, -⟩ := hI.form
 have pr := PR.out.below hb
 have hb9 := Zb HB.out hb
 obtain ⟨l_r, r0, r1, r2, r3, f0, f1, f2, f3⟩ := pr.facts
 have HQ := Hd (pr.store (.bool (decide (N < 0))) (.slice A6 (Za N.natAbs).length c6) (.bool (decide (D < 0))) (.slice A7 (Za D.natAbs).length c7))
 have HB9 := Hd (Yc hb9 (show w.heap.size <= w.heap.size + 1 + 1 by omega) (.bool (decide (N < 0))) (.slice A6 (Za N.natAbs).length c6) (.bool (decide (D < 0))) (.slice A7 (Za D.natAbs).length c7))
 have HF := Hd (HI.out.quad pr (.bool (decide (N < 0))) (.slice A6 (Za N.natAbs).length c6) (.bool (decide (D < 0))) (.slice A7 (Za D.natAbs).length c7))
 clear hb hb9 pr hI
 go_wp2_with fail
 obtain ⟨_, k0, k1, k2, k3, _, _, _, _⟩ := HQ.out.facts
 exact bodyPost_ret (by simp [results, Tryz.results236, go_sem, k0, k1, k2, k3]) rfl ⟨_, rfl, HF.out.base HB.out.size, HB9.out⟩

theorem scaled_clos {n d m f p q N D : Int} (C1 : OpR 199 n d p q N D) {w : World} {g : Nat} {A3 A4 : Option Addr} {c3 c4 : Nat} (h_q : Zw w g (.bool (decide (p < 0))) (.slice A3 (Za p.natAbs).length c3) (.bool (decide (q < 0))) (.slice A4 (Za q.natAbs).length c4)) (g_q : ZV w (.agg #[.bool (decide (p < 0)), .slice A3 (Za p.natAbs).length c3, .bool (decide (q < 0)), .slice A4 (Za q.natAbs).length c4]) p q) : OpW w 236 (.pointer (some ⟨g, 0, none⟩)) n d m f N D := fun V hV v1 v2 a1 a2 => scaled_clos0 C1 V v1 v2 a1 a2 (h_q.below hV) (g_q.below hV)

theorem argand_Scaled {n d m f p q N D M E : Int} (C1 : OpR 199 n d p q N D) (C2 : OpR 199 m f p q M E) (w : World) (v_x v_y : Value) (g_x : Zi w v_x n d m f) (g_y : ZV w v_y p q)  :
  Calls Tryz.prog 198 #[v_x, v_y] w (Zo w.heap.size w N D M E) := by
 obtain ⟨Ax1, cx1, Ax2, cx2, Ax3, cx3, Ax4, cx4, rfl, -⟩ := g_x.form
 obtain ⟨Ay1, cy1, Ay2, cy2, rfl, -⟩ := g_y.form
 have H1 := Hd C1
 have H2 := Hd C2
 clear C1 C2
 have G_x := Hd g_x
 have G_y := Hd g_y
 clear g_x g_y
 go_enter Tryz.func198, Tryz.ntmps198
 go_upto_region 1 with fail
 refine boxes3 (P := fun W => Code.wp _ _ _ _ W) fun W p0 p1 p2 b0 => ?_
 have P_x := Hd (ZX.mk p0)
 have P_y := Hd (Zw.mk p1)
 have PR := Hd (ZX.mk p2)
 have HB := Hd b0
 clear b0 p0 p1 p2
 obtain ⟨-, x0, x1, x2, x3, x4, x5, x6, x7⟩ := P_x.out.facts
 obtain ⟨-, y0, y1, y2, y3, -, -, -, -⟩ := P_y.out.facts
 go_wp2_with fail
 refine (each_Scaled W _ _ (G_x.out.below HB.out) (G_x.out.below HB.out) (scaled_clos H1.out P_y.out (G_y.out.below HB.out)) (scaled_clos H2.out P_y.out (G_y.out.below HB.out))).mono ?_
 rintro e w9 ⟨v, rfl, hI, hb⟩
 clear x0 x1 x2 x3 x4 x5 x6 x7 y0 y1 y2 y3
 obtain ⟨A6, c6, A7, c7, A8, c8, A9, c9, rfl, -⟩ := hI.form
 have pr := PR.out.below hb
 have hb9 := Zb HB.out hb
 obtain ⟨l_r, r0, r1, r2, r3, r4, r5, r6, r7⟩ := pr.facts
 obtain ⟨f0, f1, f2, f3, f4, f5, f6, f7⟩ := pr.free
 have H9 := Hd (Jb hI pr hb9 (show w.heap.size <= w.heap.size + 1 + 1 by omega) (by decide))
 clear hb hb9 pr hI
 go_wp2_with fail
 obtain ⟨_, k0, k1, k2, k3, k4, k5, k6, k7⟩ := H9.out.1.facts
 exact bodyPost_ret (by simp [results, Tryz.results198, go_sem, k0, k1, k2, k3, k4, k5, k6, k7]) rfl ⟨_, rfl, H9.out.2.2.base HB.out.size, H9.out.2.1⟩

theorem argand_Times_a {n d m f p q r s N D M E s0 : Int} (C1 : Yg 21 m f s0) (hz : (s0 == 0) = true) (C2 : OpGF 198 p q r s n d N D M E) (w : World) (v_x v_y : Value) (g_x : Zi w v_x n d m f) (g_y : Zi w v_y p q r s)  :
  Calls Tryz.prog 155 #[v_x, v_y] w (Zo w.heap.size w N D M E) := by
 obtain ⟨Ax1, cx1, Ax2, cx2, Ax3, cx3, Ax4, cx4, rfl, -⟩ := g_x.form
 obtain ⟨Ay1, cy1, Ay2, cy2, Ay3, cy3, Ay4, cy4, rfl, -⟩ := g_y.form
 have H1 := Hd C1
 have H2 := Hd C2
 clear C1 C2
 have G_x := Hd g_x
 have G_y := Hd g_y
 clear g_x g_y
 go_enter Tryz.func155, Tryz.ntmps155
 go_upto_region 1 with fail
 refine boxes3 (P := fun W => Code.wp _ _ _ _ W) fun W p0 p1 p2 b0 => ?_
 have P_x := Hd (ZX.mk p0)
 have P_y := Hd (ZX.mk p1)
 have PR := Hd (ZX.mk p2)
 have HB := Hd b0
 clear b0 p0 p1 p2
 obtain ⟨-, x0, x1, x2, x3, x4, x5, x6, x7⟩ := P_x.out.facts
 go_wp2_with fail
 refine (H1.out W _ (G_x.out.below HB.out).im).mono ?_
 rintro e wx1 ⟨rfl, hb⟩
 clear x0 x1 x2 x3 x4 x5 x6 x7
 have P_x := Hd (P_x.out.below hb)
 have P_y := Hd (P_y.out.below hb)
 have PR := Hd (PR.out.below hb)
 have HB := Hd (Zb HB.out hb)
 clear hb
 obtain ⟨-, x0, x1, x2, x3, x4, x5, x6, x7⟩ := P_x.out.facts
 obtain ⟨-, y0, y1, y2, y3, y4, y5, y6, y7⟩ := P_y.out.facts
 go_wp2_with fail
 refine (H2.out wx1 _ _ (G_y.out.below HB.out) (G_x.out.below HB.out).re).mono ?_
 rintro e w9 ⟨v, rfl, hI, hb⟩
 clear x0 x1 x2 x3 x4 x5 x6 x7 y0 y1 y2 y3 y4 y5 y6 y7
 obtain ⟨A6, c6, A7, c7, A8, c8, A9, c9, rfl, -⟩ := hI.form
 have pr := PR.out.below hb
 have hb9 := Zb HB.out hb
 obtain ⟨l_r, r0, r1, r2, r3, r4, r5, r6, r7⟩ := pr.facts
 obtain ⟨f0, f1, f2, f3, f4, f5, f6, f7⟩ := pr.free
 have H9 := Hd (Jb hI pr hb9 (show w.heap.size <= w.heap.size + 1 + 1 by omega) (by decide))
 clear hb hb9 pr hI
 go_wp2_with fail
 obtain ⟨_, k0, k1, k2, k3, k4, k5, k6, k7⟩ := H9.out.1.facts
 exact bodyPost_ret (by simp [results, Tryz.results155, go_sem, k0, k1, k2, k3, k4, k5, k6, k7]) rfl ⟨_, rfl, H9.out.2.2.base HB.out.size, H9.out.2.1⟩

theorem argand_Times_b {n d m f p q r s N D M E s0 s1 : Int} (C0 : Yg 21 m f s0) (hz0 : (s0 == 0) = false) (C1 : Yg 21 r s s1) (hz : (s1 == 0) = true) (C2 : OpGF 198 n d m f p q N D M E) (w : World) (v_x v_y : Value) (g_x : Zi w v_x n d m f) (g_y : Zi w v_y p q r s)  :
  Calls Tryz.prog 155 #[v_x, v_y] w (Zo w.heap.size w N D M E) := by
 obtain ⟨Ax1, cx1, Ax2, cx2, Ax3, cx3, Ax4, cx4, rfl, -⟩ := g_x.form
 obtain ⟨Ay1, cy1, Ay2, cy2, Ay3, cy3, Ay4, cy4, rfl, -⟩ := g_y.form
 have H0 := Hd C0
 have H1 := Hd C1
 have H2 := Hd C2
 clear C0 C1 C2
 have G_x := Hd g_x
 have G_y := Hd g_y
 clear g_x g_y
 go_enter Tryz.func155, Tryz.ntmps155
 go_upto_region 1 with fail
 refine boxes3 (P := fun W => Code.wp _ _ _ _ W) fun W p0 p1 p2 b0 => ?_
 have P_x := Hd (ZX.mk p0)
 have P_y := Hd (ZX.mk p1)
 have PR := Hd (ZX.mk p2)
 have HB := Hd b0
 clear b0 p0 p1 p2
 obtain ⟨-, x0, x1, x2, x3, x4, x5, x6, x7⟩ := P_x.out.facts
 go_wp2_with fail
 refine (H0.out W _ (G_x.out.below HB.out).im).mono ?_
 rintro e wx1 ⟨rfl, hb⟩
 clear x0 x1 x2 x3 x4 x5 x6 x7
 have P_x := Hd (P_x.out.below hb)
 have P_y := Hd (P_y.out.below hb)
 have PR := Hd (PR.out.below hb)
 have HB := Hd (Zb HB.out hb)
 clear hb
 obtain ⟨-, y0, y1, y2, y3, y4, y5, y6, y7⟩ := P_y.out.facts
 go_wp2_with fail
 refine (H1.out wx1 _ (G_y.out.below HB.out).im).mono ?_
 rintro e wx2 ⟨rfl, hb⟩
 clear y0 y1 y2 y3 y4 y5 y6 y7
 have P_x := Hd (P_x.out.below hb)
 have P_y := Hd (P_y.out.below hb)
 have PR := Hd (PR.out.below hb)
 have HB := Hd (Zb HB.out hb)
 clear hb
 obtain ⟨-, x0, x1, x2, x3, x4, x5, x6, x7⟩ := P_x.out.facts
 obtain ⟨-, y0, y1, y2, y3, y4, y5, y6, y7⟩ := P_y.out.facts
 go_wp2_with fail
 refine (H2.out wx2 _ _ (G_x.out.below HB.out) (G_y.out.below HB.out).re).mono ?_
 rintro e w9 ⟨v, rfl, hI, hb⟩
 clear x0 x1 x2 x3 x4 x5 x6 x7 y0 y1 y2 y3 y4 y5 y6 y7
 obtain ⟨A6, c6, A7, c7, A8, c8, A9, c9, rfl, -⟩ := hI.form
 have pr := PR.out.below hb
 have hb9 := Zb HB.out hb
 obtain ⟨l_r, r0, r1, r2, r3, r4, r5, r6, r7⟩ := pr.facts
 obtain ⟨f0, f1, f2, f3, f4, f5, f6, f7⟩ := pr.free
 have H9 := Hd (Jb hI pr hb9 (show w.heap.size <= w.heap.size + 1 + 1 by omega) (by decide))
 clear hb hb9 pr hI
 go_wp2_with fail
 obtain ⟨_, k0, k1, k2, k3, k4, k5, k6, k7⟩ := H9.out.1.facts
 exact bodyPost_ret (by simp [results, Tryz.results155, go_sem, k0, k1, k2, k3, k4, k5, k6, k7]) rfl ⟨_, rfl, H9.out.2.2.base HB.out.size, H9.out.2.1⟩

theorem argand_Times_c {n d m f p q r s N D M E s0 s1 p1 p2 q1 q2 a1 a2 b1 b2 r1 r2 j1 j2 : Int} (C1 : Yg 21 m f s0) (hz : (s0 == 0) = false) (C2 : Yg 21 r s s1) (hz1 : (s1 == 0) = false) (C3 : OpR 199 n d p q p1 p2) (C4 : OpR 199 m f r s q1 q2) (C5 : OpR 200 n d m f a1 a2) (C6 : OpR 200 p q r s b1 b2) (C7 : OpR 199 a1 a2 b1 b2 r1 r2) (C8 : OpR 201 p1 p2 q1 q2 N D) (C9 : OpR 200 p1 p2 q1 q2 j1 j2) (C10 : OpR 201 r1 r2 j1 j2 M E) (w : World) (v_x v_y : Value) (g_x : Zi w v_x n d m f) (g_y : Zi w v_y p q r s)  :
   Calls Tryz.prog 155 #[v_x, v_y] w (Zo w.heap.size w N D M E) := by
 obtain ⟨Ax1, cx1, Ax2, cx2, Ax3, cx3, Ax4, cx4, rfl, -⟩ := g_x.form
 obtain ⟨Ay1, cy1, Ay2, cy2, Ay3, cy3, Ay4, cy4, rfl, -⟩ := g_y.form
 have H1 := Hd C1
 have H2 := Hd C2
 have H3 := Hd C3
 have H4 := Hd C4
 have H5 := Hd C5
 have H6 := Hd C6
 have H7 := Hd C7
 have H8 := Hd C8
 have H9 := Hd C9
 have H10 := Hd C10
 clear C1 C2 C3 C4 C5 C6 C7 C8 C9 C10
 have G_x := Hd g_x
 have G_y := Hd g_y
 clear g_x g_y
 go_enter Tryz.func155, Tryz.ntmps155
 go_upto_region 1 with fail
 refine boxes3 (P := fun W => Code.wp _ _ _ _ W) fun W p0 p1 p2 b0 => ?_
 have P_x := Hd (ZX.mk p0)
 have P_y := Hd (ZX.mk p1)
 have PR := Hd (ZX.mk p2)
 have HB := Hd b0
 clear b0 p0 p1 p2
 obtain ⟨-, x0, x1, x2, x3, x4, x5, x6, x7⟩ := P_x.out.facts
 go_wp2_with fail
 refine (H1.out W _ (G_x.out.below HB.out).im).mono ?_
 rintro e wx1 ⟨rfl, hb⟩
 clear x0 x1 x2 x3 x4 x5 x6 x7
 have P_x := Hd (P_x.out.below hb)
 have P_y := Hd (P_y.out.below hb)
 have PR := Hd (PR.out.below hb)
 have HB := Hd (Zb HB.out hb)
 clear hb
 obtain ⟨-, y0, y1, y2, y3, y4, y5, y6, y7⟩ := P_y.out.facts
 go_wp2_with fail
 refine (H2.out wx1 _ (G_y.out.below HB.out).im).mono ?_
 rintro e wx2 ⟨rfl, hb⟩
 clear y0 y1 y2 y3 y4 y5 y6 y7
 have P_x := Hd (P_x.out.below hb)
 have P_y := Hd (P_y.out.below hb)
 have PR := Hd (PR.out.below hb)
 have HB := Hd (Zb HB.out hb)
 clear hb
 go_wp2_with fail
 refine Zf [.val (.pointer (some ⟨w.heap.size, 0, none⟩)) [], .val (.agg #[.bool (decide (n < 0)), .slice Ax1 (Za n.natAbs).length cx1, .bool (decide (d < 0)), .slice Ax2 (Za d.natAbs).length cx2]) [], .val (.pointer (some ⟨w.heap.size + 1, 0, none⟩)) [], .val (.agg #[.bool (decide (p < 0)), .slice Ay1 (Za p.natAbs).length cy1, .bool (decide (q < 0)), .slice Ay2 (Za q.natAbs).length cy2]) [], .any false (fun u V => Ze V w.heap.size u p1 p2) [], .val (.pointer (some ⟨w.heap.size, 4, none⟩)) [], .val (.agg #[.bool (decide (m < 0)), .slice Ax3 (Za m.natAbs).length cx3, .bool (decide (f < 0)), .slice Ax4 (Za f.natAbs).length cx4]) [], .val (.pointer (some ⟨w.heap.size + 1, 4, none⟩)) [], .val (.agg #[.bool (decide (r < 0)), .slice Ay3 (Za r.natAbs).length cy3, .bool (decide (s < 0)), .slice Ay4 (Za s.natAbs).length cy4]) [], .any false (fun u V => Ze V w.heap.size u q1 q2) [], .new 26 4, .new 26 4, .put 26 4 10 4 [], .put 26 4 11 9 []] wx2.heap.size wx2 [26] Yp _ Zg (Nat.le_refl _) (Below.refl _ _) (Zq.refl _ _ _) rfl ?_ ?_ ?_ ?_ ?_ ?_ ?_ ?_ rfl (by simp [ZH]) ?_ ?_ ?_ ?_
 iterate 8 kernel_rfl
 . simp only [Zu, and_true]
   exact ⟨fun u V V' h k => h.kept k (by decide), fun u V V' h k => h.kept k (by decide)⟩
 . simp only [ZR]
 . simp (maxSteps := 4000000) [Zz, Yj, Zh, ZA, Zl]
   repeat' (first | apply And.intro | (intro (u : Value)) | (intro (u : Nat)))
   all_goals try exact ⟨_, _, _, rfl, rfl, rfl, rfl, YB⟩
   all_goals try exact allocFracG rfl
   all_goals first
   | (intro V hV hK
      have hs_x := P_x.out.blk.lt
      have hs_y := P_y.out.blk.lt
      have qx : ZX V (w.heap.size) _ _ _ _ _ _ _ _ _ := ⟨P_x.out.blk.below hV (by omega)⟩
      obtain ⟨-, x0, x1, x2, x3, x4, x5, x6, x7⟩ := qx.facts
      have qy : ZX V (w.heap.size + 1) _ _ _ _ _ _ _ _ _ := ⟨P_y.out.blk.below hV (by omega)⟩
      obtain ⟨-, y0, y1, y2, y3, y4, y5, y6, y7⟩ := qy.facts
      have hvb := HB.out.trans (hV.mono (by omega))
      have hvs := hvb.size
      have g_x := Hd (G_x.out.below hvb)
      have g_y := Hd (G_y.out.below hvb)
      clear hV hK qx qy
      go_simp
      first
      | exact Below.refl _ _
      | ((with_reducible refine (H3.out V _ _ g_x.out.re g_y.out.re).mono ?_); rintro _ _ ⟨_, rfl, x, y⟩; exact ⟨x.base hvs, y⟩)
      | ((with_reducible refine (H4.out V _ _ g_x.out.im g_y.out.im).mono ?_); rintro _ _ ⟨_, rfl, x, y⟩; exact ⟨x.base hvs, y⟩))
   | exact fun _ _ _ (h : Ze _ _ _ _ _) => h.cells
   | exact fun _ _ _ (h : Ze _ _ _ _ _) _ => h.cells
 . simp [Yn, ZD, Zh, ZA, Zl]
   intro u1 u2 b_vp hb_vp b_vq hb_vq V3 hV hK h1 h2 p_vp p_vq _ _ _
   have N_vp := Hd (show b_vp ≠ w.heap.size + 1 + 1 from by have := PR.out.blk.lt; omega)
   have N_vq := Hd (show b_vq ≠ w.heap.size + 1 + 1 from by have := PR.out.blk.lt; omega)
   have O_vp := Hd h1.in_
   obtain ⟨Avp1, cvp1, Avp2, cvp2, rfl, -⟩ := h1.form
   have P_vp := Hd (show Zw V3 b_vp _ _ _ _ from ⟨p_vp⟩)
   have O_vq := Hd h2.in_
   obtain ⟨Avq1, cvq1, Avq2, cvq2, rfl, -⟩ := h2.form
   have P_vq := Hd (show Zw V3 b_vq _ _ _ _ from ⟨p_vq⟩)
   have P_x := Hd (P_x.out.below hV)
   have P_y := Hd (P_y.out.below hV)
   have PR := Hd (PR.out.below hV)
   have HB := Hd (Zb HB.out hV)
   clear hV hK h1 h2 p_vp p_vq hb_vp hb_vq
   go_wp2_with fail
   refine Zf [.val (.pointer (some ⟨w.heap.size, 0, none⟩)) [], .val (.agg #[.bool (decide (n < 0)), .slice Ax1 (Za n.natAbs).length cx1, .bool (decide (d < 0)), .slice Ax2 (Za d.natAbs).length cx2]) [], .val (.pointer (some ⟨w.heap.size, 4, none⟩)) [], .val (.agg #[.bool (decide (m < 0)), .slice Ax3 (Za m.natAbs).length cx3, .bool (decide (f < 0)), .slice Ax4 (Za f.natAbs).length cx4]) [], .any false (fun u V => Ze V w.heap.size u a1 a2) [], .val (.pointer (some ⟨w.heap.size + 1, 0, none⟩)) [], .val (.agg #[.bool (decide (p < 0)), .slice Ay1 (Za p.natAbs).length cy1, .bool (decide (q < 0)), .slice Ay2 (Za q.natAbs).length cy2]) [], .val (.pointer (some ⟨w.heap.size + 1, 4, none⟩)) [], .val (.agg #[.bool (decide (r < 0)), .slice Ay3 (Za r.natAbs).length cy3, .bool (decide (s < 0)), .slice Ay4 (Za s.natAbs).length cy4]) [], .any false (fun u V => Ze V w.heap.size u b1 b2) [], .any false (fun u V => Ze V w.heap.size u r1 r2) [4, 9], .new 26 4, .put 26 4 11 10 []] V3.heap.size V3 [26] Yp _ Zg (Nat.le_refl _) (Below.refl _ _) (Zq.refl _ _ _) rfl ?_ ?_ ?_ ?_ ?_ ?_ ?_ ?_ rfl (by simp [ZH]) ?_ ?_ ?_ ?_
   iterate 8 kernel_rfl
   . simp only [Zu, and_true]
     exact ⟨fun u V V' h k => h.kept k (by decide), fun u V V' h k => h.kept k (by decide), fun u V V' h k => h.kept k (by decide)⟩
   . simp only [ZR]
   . simp (maxSteps := 4000000) [Zz, Yj, Zh, ZA, Zl]
     repeat' (first | apply And.intro | (intro (u : Value)) | (intro (u : Nat)))
     all_goals try exact ⟨_, _, _, rfl, rfl, rfl, rfl, YB⟩
     all_goals try exact allocFracG rfl
     all_goals first
     | (intro V hV hK
        have hs_x := P_x.out.blk.lt
        have hs_y := P_y.out.blk.lt
        have qx : ZX V (w.heap.size) _ _ _ _ _ _ _ _ _ := ⟨P_x.out.blk.below hV (by omega)⟩
        obtain ⟨-, x0, x1, x2, x3, x4, x5, x6, x7⟩ := qx.facts
        have qy : ZX V (w.heap.size + 1) _ _ _ _ _ _ _ _ _ := ⟨P_y.out.blk.below hV (by omega)⟩
        obtain ⟨-, y0, y1, y2, y3, y4, y5, y6, y7⟩ := qy.facts
        have qvp := P_vp.out.below hV
        obtain ⟨-, a_vp0, a_vp1, a_vp2, a_vp3, -, -, -, -⟩ := qvp.facts
        have o_vp := Hd (O_vp.out.below hV)
        have qvq := P_vq.out.below hV
        obtain ⟨-, a_vq0, a_vq1, a_vq2, a_vq3, -, -, -, -⟩ := qvq.facts
        have o_vq := Hd (O_vq.out.below hV)
        have hvb := HB.out.trans (hV.mono (by omega))
        have hvs := hvb.size
        have g_x := Hd (G_x.out.below hvb)
        have g_y := Hd (G_y.out.below hvb)
        clear hV hK qx qy qvp qvq
        go_simp
        first
        | exact Below.refl _ _
        | ((with_reducible refine (H5.out V _ _ g_x.out.re g_x.out.im).mono ?_); rintro _ _ ⟨_, rfl, x, y⟩; exact ⟨x.base hvs, y⟩)
        | ((with_reducible refine (H6.out V _ _ g_y.out.re g_y.out.im).mono ?_); rintro _ _ ⟨_, rfl, x, y⟩; exact ⟨x.base hvs, y⟩))
     | (intro V hV hK h1 h2
        have hs_x := P_x.out.blk.lt
        have hs_y := P_y.out.blk.lt
        have qx : ZX V (w.heap.size) _ _ _ _ _ _ _ _ _ := ⟨P_x.out.blk.below hV (by omega)⟩
        obtain ⟨-, x0, x1, x2, x3, x4, x5, x6, x7⟩ := qx.facts
        have qy : ZX V (w.heap.size + 1) _ _ _ _ _ _ _ _ _ := ⟨P_y.out.blk.below hV (by omega)⟩
        obtain ⟨-, y0, y1, y2, y3, y4, y5, y6, y7⟩ := qy.facts
        have qvp := P_vp.out.below hV
        obtain ⟨-, a_vp0, a_vp1, a_vp2, a_vp3, -, -, -, -⟩ := qvp.facts
        have o_vp := Hd (O_vp.out.below hV)
        have qvq := P_vq.out.below hV
        obtain ⟨-, a_vq0, a_vq1, a_vq2, a_vq3, -, -, -, -⟩ := qvq.facts
        have o_vq := Hd (O_vq.out.below hV)
        have hvb := HB.out.trans (hV.mono (by omega))
        have hvs := hvb.size
        have g_x := Hd (G_x.out.below hvb)
        have g_y := Hd (G_y.out.below hvb)
        clear hV hK qx qy qvp qvq
        go_simp
        ((with_reducible refine (H7.out V _ _ h1.at_ h2.at_).mono ?_); rintro _ _ ⟨_, rfl, x, y⟩; exact ⟨x.base hvs, y⟩))
     | exact fun _ _ _ (h : Ze _ _ _ _ _) => h.cells
     | exact fun _ _ _ (h : Ze _ _ _ _ _) _ => h.cells
   . simp [Yn, ZD, Zh, ZA, Zl]
     intro u1 u2 u3 b_vr hb_vr V4 hV hK h1 h2 h3 p_vr _ _ _
     have N_vr := Hd (show b_vr ≠ w.heap.size + 1 + 1 from by have := PR.out.blk.lt; omega)
     have O_vr := Hd h3.in_
     obtain ⟨Avr1, cvr1, Avr2, cvr2, rfl, -⟩ := h3.form
     have P_vr := Hd (show Zw V4 b_vr _ _ _ _ from ⟨p_vr⟩)
     have P_x := Hd (P_x.out.below hV)
     have P_y := Hd (P_y.out.below hV)
     have P_vp := Hd (P_vp.out.below hV)
     have O_vp := Hd (O_vp.out.below hV)
     have P_vq := Hd (P_vq.out.below hV)
     have O_vq := Hd (O_vq.out.below hV)
     have PR := Hd (PR.out.below hV)
     have HB := Hd (Zb HB.out hV)
     clear hV hK h1 h2 h3 p_vr hb_vr
     have hsz := PR.out.blk.lt
     go_wp2_with fail
     refine Zf [.val (.agg #[.bool (decide (p1 < 0)), .slice Avp1 (Za p1.natAbs).length cvp1, .bool (decide (p2 < 0)), .slice Avp2 (Za p2.natAbs).length cvp2]) [], .val (.agg #[.bool (decide (q1 < 0)), .slice Avq1 (Za q1.natAbs).length cvq1, .bool (decide (q2 < 0)), .slice Avq2 (Za q2.natAbs).length cvq2]) [], .any true (fun u V => Ze V w.heap.size u N D) [], .val (.agg #[.bool (decide (r1 < 0)), .slice Avr1 (Za r1.natAbs).length cvr1, .bool (decide (r2 < 0)), .slice Avr2 (Za r2.natAbs).length cvr2]) [], .val (.agg #[.bool (decide (p1 < 0)), .slice Avp1 (Za p1.natAbs).length cvp1, .bool (decide (p2 < 0)), .slice Avp2 (Za p2.natAbs).length cvp2]) [], .val (.agg #[.bool (decide (q1 < 0)), .slice Avq1 (Za q1.natAbs).length cvq1, .bool (decide (q2 < 0)), .slice Avq2 (Za q2.natAbs).length cvq2]) [], .any false (fun u V => Ze V w.heap.size u j1 j2) [], .any true (fun u V => Ze V w.heap.size u M E) [6], .any false (fun u V => Zk V w.heap.size u N D M E) [2, 7, 1002007], .old (w.heap.size + 1 + 1) 28 #[.bool false, .slice none 0 0, .bool false, .slice none 0 0, .bool false, .slice none 0 0, .bool false, .slice none 0 0] 0 8 8 []] (w.heap.size + 1 + 1) V4 [28] Yp _ Zg (by omega) (Below.refl _ _) (Zq.refl _ _ _) rfl ?_ ?_ ?_ ?_ ?_ ?_ ?_ ?_ rfl (by simp [ZH]) ?_ ?_ ?_ ?_
     iterate 8 kernel_rfl
     . simp only [Zu, and_true]
       exact ⟨fun u V V' h k => h.kept k (by decide), fun u V V' h k => h.kept k (by decide), fun u V V' h k => h.kept k (by decide), fun u V V' h k => h.kept k (by decide)⟩
     . simp only [ZR, and_true]
       exact ⟨Nat.le_refl _, PR.out.blk.lt, PR.out.blk, by simp⟩
     . simp (maxSteps := 4000000) [Zz, Yj, Zh, ZA, Zl]
       repeat' (first | apply And.intro | (intro (u : Value)) | (intro (u : Nat)))
       all_goals try exact ⟨_, _, _, rfl, rfl, rfl, rfl, gaussInfo⟩
       all_goals first
       | (intro V hV hK
          have qx : ZX V (w.heap.size) _ _ _ _ _ _ _ _ _ := ⟨P_x.out.blk.below hV (by omega)⟩
          obtain ⟨-, x0, x1, x2, x3, x4, x5, x6, x7⟩ := qx.facts
          have qy : ZX V (w.heap.size + 1) _ _ _ _ _ _ _ _ _ := ⟨P_y.out.blk.below hV (by omega)⟩
          obtain ⟨-, y0, y1, y2, y3, y4, y5, y6, y7⟩ := qy.facts
          have qvp := Zw.mk (hK.blk P_vp.out.blk (by decide))
          obtain ⟨-, a_vp0, a_vp1, a_vp2, a_vp3, -, -, -, -⟩ := qvp.facts
          have o_vp := Hd (O_vp.out.kept hK (by decide))
          have qvq := Zw.mk (hK.blk P_vq.out.blk (by decide))
          obtain ⟨-, a_vq0, a_vq1, a_vq2, a_vq3, -, -, -, -⟩ := qvq.facts
          have o_vq := Hd (O_vq.out.kept hK (by decide))
          have qvr := Zw.mk (hK.blk P_vr.out.blk (by decide))
          obtain ⟨-, a_vr0, a_vr1, a_vr2, a_vr3, -, -, -, -⟩ := qvr.facts
          have o_vr := Hd (O_vr.out.kept hK (by decide))
          have hvb := HB.out.trans (hV.mono (by omega))
          have hvs := hvb.size
          have g_x := Hd (G_x.out.below hvb)
          have g_y := Hd (G_y.out.below hvb)
          clear hV hK qx qy qvp qvq qvr
          go_simp
          first
          | exact Below.refl _ _
          | ((with_reducible refine (H8.out V _ _ o_vp.out.at_ o_vq.out.at_).mono ?_); rintro _ _ ⟨_, rfl, x, y⟩; exact ⟨x.base hvs, y, x.mine⟩)
          | ((with_reducible refine (H9.out V _ _ o_vp.out.at_ o_vq.out.at_).mono ?_); rintro _ _ ⟨_, rfl, x, y⟩; exact ⟨x.base hvs, y⟩))
       | (intro V hV hK h1
          have qx : ZX V (w.heap.size) _ _ _ _ _ _ _ _ _ := ⟨P_x.out.blk.below hV (by omega)⟩
          obtain ⟨-, x0, x1, x2, x3, x4, x5, x6, x7⟩ := qx.facts
          have qy : ZX V (w.heap.size + 1) _ _ _ _ _ _ _ _ _ := ⟨P_y.out.blk.below hV (by omega)⟩
          obtain ⟨-, y0, y1, y2, y3, y4, y5, y6, y7⟩ := qy.facts
          have qvp := Zw.mk (hK.blk P_vp.out.blk (by decide))
          obtain ⟨-, a_vp0, a_vp1, a_vp2, a_vp3, -, -, -, -⟩ := qvp.facts
          have o_vp := Hd (O_vp.out.kept hK (by decide))
          have qvq := Zw.mk (hK.blk P_vq.out.blk (by decide))
          obtain ⟨-, a_vq0, a_vq1, a_vq2, a_vq3, -, -, -, -⟩ := qvq.facts
          have o_vq := Hd (O_vq.out.kept hK (by decide))
          have qvr := Zw.mk (hK.blk P_vr.out.blk (by decide))
          obtain ⟨-, a_vr0, a_vr1, a_vr2, a_vr3, -, -, -, -⟩ := qvr.facts
          have o_vr := Hd (O_vr.out.kept hK (by decide))
          have hvb := HB.out.trans (hV.mono (by omega))
          have hvs := hvb.size
          have g_x := Hd (G_x.out.below hvb)
          have g_y := Hd (G_y.out.below hvb)
          clear hV hK qx qy qvp qvq qvr
          go_simp
          ((with_reducible refine (H10.out V _ _ o_vr.out.at_ h1.at_).mono ?_); rintro _ _ ⟨_, rfl, x, y⟩; exact ⟨x.base hvs, y, x.mine⟩))
       | (intro V hV hK h1 h2 hq
          obtain ⟨A1, c1, B1, e1, rfl, -, -, -⟩ := h1.form
          obtain ⟨A2, c2, B2, e2, rfl, -, -, -⟩ := h2.form
          clear hV hK
          go_simp
          exact ⟨⟨_, _, _, _, _, _, _, _, rfl, h1, h2, hq⟩, Below.refl _ _⟩)
       | exact fun _ _ _ (h : Zk _ _ _ _ _ _ _) => h.cells
     . simp [Yn, ZD, Zh, ZA, Zl]
       intro u1 u2 u3 u4 V hV hK h1 h2 h3 h4 bq _ _ _
       have HF := Hd h4
       obtain ⟨A6, c6, A7, c7, A8, c8, A9, c9, rfl, -⟩ := h4.form
       simp [Z9, Value.cells] at bq
       have k0 := bq.cell 0
       have k1 := bq.cell 1
       have k2 := bq.cell 2
       have k3 := bq.cell 3
       have k4 := bq.cell 4
       have k5 := bq.cell 5
       have k6 := bq.cell 6
       have k7 := bq.cell 7
       simp at k0 k1 k2 k3 k4 k5 k6 k7
       have HB9 := Hd (HB.out.trans (hV.mono (by omega)))
       clear h1 h2 h3 h4 hV hK bq
       go_wp2_with fail
       exact bodyPost_ret (by simp [results, Tryz.results155, go_sem, k0, k1, k2, k3, k4, k5, k6, k7]) rfl ⟨_, rfl, HF.out, HB9.out⟩

theorem lz_i64 {n : Int} (h1 : -9223372036854775808 <= n) (h2 : n <= 9223372036854775807) : lz n <= 2 := by
 rw [lz_le]
 omega
theorem small_own {n d : Int} (hn1 : -9223372036854775808 <= n) (hn2 : n <= 9223372036854775807) (hd1 : -9223372036854775808 <= d) (hd2 : d <= 9223372036854775807) (hd0 : d ≠ 0) (w : World)   :
  Calls Tryz.prog 97 #[.int .i64 n, .int .i64 d] w (ZE w.heap.size w (Yx n d) (Yt n d)) := by
 have D1 := fun (V : World) => eof n n rfl hn1 hn2 V
 have D2 := fun (V : World) => eof d d rfl hd1 hd2 V
 have l1 : lz n <= 400000000 := Nat.le_trans (lz_i64 hn1 hn2) (by decide)
 have l2 : lz d <= 400000000 := Nat.le_trans (lz_i64 hd1 hd2) (by decide)
 obtain ⟨N, hN⟩ : ∃ k : Int, k = Yx n d := ⟨_, rfl⟩
 obtain ⟨D, hD⟩ : ∃ k : Int, k = Yt n d := ⟨_, rfl⟩
 rw [<- hN, <- hD]
 have HLOW := Hd (And.intro hN hD)
 have H1 := Hd D1
 have H2 := Hd D2
 have H0 := Hd hd0
 clear hn1 hn2 hd1 hd2 hd0 D1 D2 hN hD
 go_enter Tryz.func97, Tryz.ntmps97
 go_upto_region 1 with fail
 refine Zy (P := fun W => Code.wp _ _ _ _ W) fun W p0 b0 => ?_
 have PR := Hd (Zw.mk p0)
 have HB := Hd b0
 clear b0 p0
 go_wp2_with fail
 refine (H1.out W).mono ?_
 rintro e wx1 ⟨v, rfl, hI, hb⟩
 obtain ⟨A6, c6, rfl, -⟩ := hI.raw
 have I1 := Hd (hI.base HB.out.size)
 have M1 := Hd (show ∀ g, (Value.slice A6 (Za n.natAbs).length c6).ownBlock = some g -> g < wx1.heap.size from fun g hg => (hI.mine g hg).2)
 clear hI
 have PR := Hd (PR.out.below hb)
 have HB := Hd (Zb HB.out hb)
 clear hb
 go_wp2_with fail
 refine (H2.out wx1).mono ?_
 rintro e wx2 ⟨v, rfl, hI, hb⟩
 obtain ⟨A7, c7, rfl, -⟩ := hI.raw
 have I2 := Hd (hI.base HB.out.size)
 have HQ2 := Hd (show ∀ g, (Value.slice A6 (Za n.natAbs).length c6).ownBlock = some g -> (Value.slice A7 (Za d.natAbs).length c7).ownBlock ≠ some g from fun g hg hg2 => by have a := M1.out g hg; have b := (hI.mine g hg2).1; omega)
 clear hI
 have PR := Hd (PR.out.below hb)
 have I1 := Hd (I1.out.below hb)
 have HB := Hd (Zb HB.out hb)
 clear hb
 go_wp2_with fail
 refine (show Calls Tryz.prog 169 _ _ (ZE w.heap.size wx2 N D) from by rw [HLOW.out.1, HLOW.out.2]; exact efresh n d A6 A7 c6 c7 w.heap.size wx2 I1.out I2.out HQ2.out HB.out.size l1 l2 H0.out).mono ?_
 rintro e w9 ⟨v, rfl, hI, hb⟩
 have HI := Hd hI
 obtain ⟨A6, c6, A7, c7, rfl, -⟩ := hI.form
 have pr := PR.out.below hb
 have hb9 := Zb HB.out hb
 obtain ⟨l_r, r0, r1, r2, r3, f0, f1, f2, f3⟩ := pr.facts
 have HQ := Hd (pr.store (.bool (decide (N < 0))) (.slice A6 (Za N.natAbs).length c6) (.bool (decide (D < 0))) (.slice A7 (Za D.natAbs).length c7))
 have HB9 := Hd (Yc hb9 (show w.heap.size <= w.heap.size by omega) (.bool (decide (N < 0))) (.slice A6 (Za N.natAbs).length c6) (.bool (decide (D < 0))) (.slice A7 (Za D.natAbs).length c7))
 have HF := Hd (HI.out.quad pr (.bool (decide (N < 0))) (.slice A6 (Za N.natAbs).length c6) (.bool (decide (D < 0))) (.slice A7 (Za D.natAbs).length c7))
 clear hb hb9 pr hI
 go_wp2_with fail
 obtain ⟨_, k0, k1, k2, k3, _, _, _, _⟩ := HQ.out.facts
 exact bodyPost_ret (by simp [results, Tryz.results97, go_sem, k0, k1, k2, k3]) rfl ⟨_, rfl, HF.out, HB9.out⟩


theorem sgn_r {a : Rat} {n d : Int} (_ha : Is a n d) : Yg 21 n d n.sign := by
 intro V v1 g1
 obtain ⟨A, c, B, e0, rfl, a1, -⟩ := g1.form
 exact ratio_Sign n n.sign d A B c e0 V a1 rfl
theorem ZM (n : Int) (b : Bool) (h : decide (n = 0) = b) : (n.sign == 0) = b := by
 rw [<- h]
 by_cases hn : n = 0
 . subst hn; rfl
 . rw [decide_eq_false hn]
   exact beq_eq_false_iff_ne.2 (fun e => hn (Int.sign_eq_zero_iff_zero.1 e))
section
variable {a b c e : Rat} {n d m f p q r s N D M E : Int}
theorem scaled_g (ha : Is a n d) (hb : Is b m f) (hc : Is c p q) (sa : Sz a 100000000) (sb : Sz b 100000000) (sc : Sz c 100000000) (h1 : Is (a * c) N D) (h2 : Is (b * c) M E) : OpGF 198 n d m f p q N D M E := by
 exact argand_Scaled (times_r ha hc h1 sa sc) (times_r hb hc h2 sb sc)
theorem times_g (ha : Is a n d) (hb : Is b m f) (hc : Is c p q) (he : Is e r s) (sa : Sz a 1000000) (sb : Sz b 1000000) (sc : Sz c 1000000) (se : Sz e 1000000) (h1 : Is (a * c - b * e) N D) (h2 : Is (a * e + b * c) M E) : OpG 155 n d m f p q r s N D M E := by
 have up : ∀ {q : Rat} {k : Nat}, Sz q k -> k <= 100000000 -> Sz q 100000000 := fun h k => h.mono k
 by_cases hm : m = 0
 . have hb0 : b = 0 := hb.nought.1 hm
   subst hb0
   have e1 : Is (c * a) N D := by rw [show c * a = a * c - 0 * e by grind]; exact h1
   have e2 : Is (e * a) M E := by rw [show e * a = a * e + 0 * c by grind]; exact h2
   exact argand_Times_a (sgn_r hb) (ZM m true (decide_eq_true hm)) (scaled_g hc he ha (up sc (by omega)) (up se (by omega)) (up sa (by omega)) e1 e2)
 . by_cases hr : r = 0
   . have he0 : e = 0 := he.nought.1 hr
     subst he0
     have e1 : Is (a * c) N D := by rw [show a * c = a * c - b * 0 by grind]; exact h1
     have e2 : Is (b * c) M E := by rw [show b * c = a * 0 + b * c by grind]; exact h2
     exact argand_Times_b (sgn_r hb) (ZM m false (decide_eq_false hm)) (sgn_r he) (ZM r true (decide_eq_true hr)) (scaled_g ha hb hc (up sa (by omega)) (up sb (by omega)) (up sc (by omega)) e1 e2)
   . have e2 : Is ((a + b) * (c + e) - (a * c + b * e)) M E := by rw [show (a + b) * (c + e) - (a * c + b * e) = a * e + b * c by grind]; exact h2
     have sp := sz_mul sa sc
     have sq := sz_mul sb se
     have s1 := sz_add sa sb
     have s2 := sz_add sc se
     have s3 := sz_mul s1 s2
     have s4 := sz_add sp sq
     exact argand_Times_c (sgn_r hb) (ZM m false (decide_eq_false hm)) (sgn_r he) (ZM r false (decide_eq_false hr))
      (times_r ha hc (Is.of _) (up sa (by omega)) (up sc (by omega))) (times_r hb he (Is.of _) (up sb (by omega)) (up se (by omega))) (plus_r ha hb (Is.of _) (up sa (by omega)) (up sb (by omega))) (plus_r hc he (Is.of _) (up sc (by omega)) (up se (by omega))) (times_r (Is.of _) (Is.of _) (Is.of _) (up s1 (by omega)) (up s2 (by omega)))
      (minus_r (Is.of _) (Is.of _) h1 (up sp (by omega)) (up sq (by omega))) (plus_r (Is.of _) (Is.of _) (Is.of _) (up sp (by omega)) (up sq (by omega))) (minus_r (Is.of _) (Is.of _) e2 (up s3 (by omega)) (up s4 (by omega)))
end
end Go.Proofs.YtdonecnhdkjniaaGreatDoor
