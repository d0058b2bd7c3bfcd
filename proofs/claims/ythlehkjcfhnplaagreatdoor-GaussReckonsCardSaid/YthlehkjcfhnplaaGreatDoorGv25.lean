/- Several texts in one: FRefDo, Longs, Argand, Ratio0, ArgandLaw. -/
import Derived.Test.YthlehkjcfhnplaaGreatDoorGv24
set_option maxRecDepth 100000
set_option maxHeartbeats 8000000
namespace Go.Proofs.YthlehkjcfhnplaaGreatDoor
open Go.RowKit


def Xu.long (q : Xu) : Bool := decide (2048 < q.n) || decide (2048 < q.m)
theorem long_a {q : Xu} {b1 : Bool} {A1 : Option Addr} {n c9 : Nat} {b2 : Bool} {B1 : Option Addr} {m e9 : Nat} (h : ⟨b1, A1, n, c9, b2, B1, m, e9⟩ = q) : q.long = (decide (2048 < n) || decide (2048 < m)) := by rw [<- h]; rfl

theorem ratio_LongL (l : List Xu) (A : Option Addr) (c : Nat) (hl : l.length <= 9223372036854775807) (hs : ∀ q ∈ l, q.n <= 9223372036854775807 /\ q.m <= 9223372036854775807) (w : World) (h : ZO w w.heap.size 4 A l.length (XX l)) :
   Calls Tryz.prog 203 #[.slice A l.length c] w fun e w' => e = .returned (.bool (l.any Xu.long)) /\ Below w.heap.size w w' := by
 have HR := Hd h
 have HS := Hd hs
 clear h hs
 have H0 := Hd (by intro j hj; omega : ∀ j (_ : j < 0), (h : j < l.length) -> l[j].long = false)
 go_enter Tryz.func203, Tryz.ntmps203
 go_wp2_with fail
 go_loopw [7] (fun s wr => ∃ i : Nat, s = .int .i64 i /\ i <= l.length /\ Hid (∀ j (_ : j < i), (h : j < l.length) -> l[j].long = false) /\ Below w.heap.size w wr) (fun s _ => l.length - (intOf s).toNat)
 case atStart => exact ⟨0, rfl, Nat.zero_le _, H0, Below.refl _ _⟩
 case round =>
   obtain ⟨i, rfl, hi, HN, hb⟩ := hrel
   clear H0
   by_cases hlt : i < l.length
   . have a0 : (0 : Int) <= (i : Int) := by omega
     have a1 : (i : Int) < (l.length : Int) := by omega
     obtain ⟨e0, e1, e2, e3⟩ := Jm l i hlt
     obtain ⟨ad, rfl, hbl, c0, c1, c2, c3⟩ := (HR.out.below hb).row4 hlt e0 e1 e2 e3
     obtain ⟨h1, h2⟩ := HS.out _ (List.getElem_mem hlt)
     have HB := Hd hb
     have HE := Hd (And.intro e0 (And.intro e1 (And.intro e2 e3)))
     clear e0 e1 e2 e3 hbl hb
     obtain ⟨q, hq⟩ : ∃ q, q = l[i] := ⟨_, rfl⟩
     have HQ := Hd hq
     rw [<- hq] at c0 c1 c2 c3 h1 h2
     clear hq
     obtain ⟨b1, A1, n, c9, b2, E1, m, e9⟩ := q
     simp only at c0 c1 c2 c3 h1 h2
     have C1 := fun (V : World) (g' : Nat) (hg : V.heap.size = g') => flong_one b1 A1 n c9 h1 V g' hg
     have C2 := fun (V : World) (g' : Nat) (hg : V.heap.size = g') => flong_one b2 E1 m e9 h2 V g' hg
     have HL := Hd (long_a HQ.out)
     clear h1 h2
     by_cases hn : 2048 < n
     . rw [decide_eq_true hn] at C1
       have HL := Hd (show l[i].long = true from by rw [HL.out, decide_eq_true hn]; rfl)
       have H1 := Hd C1
       clear C1 C2 hn
       go_wp2_with (go_at_call 250; with_reducible refine (H1.out _ _ (by simp)).mono ?_; rintro e w1 ⟨rfl, hb1⟩; have q4 := ((ZB.new wr (.bool b1) (.slice A1 n c9) (.bool b2) (.slice E1 m e9)).alloc (.cells #[.bool b1, .slice A1 n c9] 24)).below hb1; have B1 := Zb ((HB.out.alloc HB.out.size _).alloc (by simp; have := HB.out.size; omega) _) hb1; obtain ⟨l4, y0, y1, y2, y3, -, -, -, -⟩ := q4.facts)
       go_ret
       have e : l.any Xu.long = true := List.any_eq_true.2 ⟨l[i], List.getElem_mem hlt, HL.out⟩
       exact ⟨by rw [e]; rfl, B1⟩
     . rw [decide_eq_false hn] at C1
       have H1 := Hd C1
       by_cases hm : 2048 < m
       . rw [decide_eq_true hm] at C2
         have HL := Hd (show l[i].long = true from by rw [HL.out, decide_eq_true hm, Bool.or_true])
         have H2 := Hd C2
         clear C1 C2 hn hm
         go_wp2_with (first | (go_at_call 250; with_reducible refine (H1.out _ _ (by simp)).mono ?_; rintro e w1 ⟨rfl, hb1⟩; have q4 := ((ZB.new wr (.bool b1) (.slice A1 n c9) (.bool b2) (.slice E1 m e9)).alloc (.cells #[.bool b1, .slice A1 n c9] 24)).below hb1; have B1 := Zb ((HB.out.alloc HB.out.size _).alloc (by simp; have := HB.out.size; omega) _) hb1; obtain ⟨l4, y0, y1, y2, y3, -, -, -, -⟩ := q4.facts) | (go_at_call 250; with_reducible refine (H2.out _ _ rfl).mono ?_; rintro e w2 ⟨rfl, hb2⟩; have B2 := Zb (B1.alloc B1.size _) hb2))
         go_ret
         have e : l.any Xu.long = true := List.any_eq_true.2 ⟨l[i], List.getElem_mem hlt, HL.out⟩
         exact ⟨by rw [e]; rfl, B2⟩
       . rw [decide_eq_false hm] at C2
         have HL := Hd (show l[i].long = false from by rw [HL.out, decide_eq_false hn, decide_eq_false hm]; rfl)
         have H2 := Hd C2
         clear C1 C2 hn hm
         go_wp2_with (first | (go_at_call 250; with_reducible refine (H1.out _ _ (by simp)).mono ?_; rintro e w1 ⟨rfl, hb1⟩; have q4 := ((ZB.new wr (.bool b1) (.slice A1 n c9) (.bool b2) (.slice E1 m e9)).alloc (.cells #[.bool b1, .slice A1 n c9] 24)).below hb1; have B1 := Zb ((HB.out.alloc HB.out.size _).alloc (by simp; have := HB.out.size; omega) _) hb1; obtain ⟨l4, y0, y1, y2, y3, -, -, -, -⟩ := q4.facts) | (go_at_call 250; with_reducible refine (H2.out _ _ rfl).mono ?_; rintro e w2 ⟨rfl, hb2⟩; have B2 := Zb (B1.alloc B1.size _) hb2))
         go_roundw
         case rel =>
           refine ⟨i + 1, by go_num, hlt, Hd fun j hj h => ?_, B2⟩
           rcases (by omega : j < i ∨ j = i) with hj | rfl
           . exact HN.out j hj h
           . exact HL.out
         case measure => simp [intOf]; omega
   . have HB := Hd hb
     clear hb
     go_wp2_with fail
     go_ret
     have e : l.any Xu.long = false := List.any_eq_false.2 fun x hx => by
       obtain ⟨j, hj, rfl⟩ := List.getElem_of_mem hx
       rw [HN.out j (by omega) hj]
       decide
     exact ⟨by rw [e]; rfl, HB.out⟩
theorem ref02_LongL (l : List Xu) (A : Option Addr) (c : Nat) (hl : l.length <= 9223372036854775807) (hs : ∀ q ∈ l, q.n <= 9223372036854775807 /\ q.m <= 9223372036854775807) (w : World) (h : ZO w w.heap.size 4 A l.length (XX l)) :
   Calls Tryz.prog 206 #[.slice A l.length c] w fun e w' => e = .returned (.bool (l.any Xu.long)) /\ Below w.heap.size w w' := by
 have HR := Hd h
 have HS := Hd hs
 clear h hs
 have H0 := Hd (by intro j hj; omega : ∀ j (_ : j < 0), (h : j < l.length) -> l[j].long = false)
 go_enter Tryz.func206, Tryz.ntmps206
 go_wp2_with fail
 go_loopw [3] (fun s wr => ∃ i : Nat, s = .int .i64 i /\ i <= l.length /\ Hid (∀ j (_ : j < i), (h : j < l.length) -> l[j].long = false) /\ Below w.heap.size w wr) (fun s _ => l.length - (intOf s).toNat)
 case atStart => exact ⟨0, rfl, Nat.zero_le _, H0, Below.refl _ _⟩
 case round =>
   obtain ⟨i, rfl, hi, HN, hb⟩ := hrel
   clear H0
   by_cases hlt : i < l.length
   . have a0 : (0 : Int) <= (i : Int) := by omega
     have a1 : (i : Int) < (l.length : Int) := by omega
     obtain ⟨e0, e1, e2, e3⟩ := Jm l i hlt
     obtain ⟨ad, rfl, hbl, c0, c1, c2, c3⟩ := (HR.out.below hb).row4 hlt e0 e1 e2 e3
     obtain ⟨h1, h2⟩ := HS.out _ (List.getElem_mem hlt)
     have HB := Hd hb
     have HE := Hd (And.intro e0 (And.intro e1 (And.intro e2 e3)))
     clear e0 e1 e2 e3 hb
     obtain ⟨q, hq⟩ : ∃ q, q = l[i] := ⟨_, rfl⟩
     have HQ := Hd hq
     rw [<- hq] at c0 c1 c2 c3 h1 h2
     clear hq
     obtain ⟨b1, A1, n, c9, b2, E1, m, e9⟩ := q
     simp only at c0 c1 c2 c3 h1 h2
     have C1 := fun (V : World) => ref_Long b1 A1 n c9 h1 V
     have C2 := fun (V : World) => ref_Long b2 E1 m e9 h2 V
     have HL := Hd (long_a HQ.out)
     clear h1 h2
     by_cases hn : 2048 < n
     . rw [decide_eq_true hn] at C1
       have HL := Hd (show l[i].long = true from by rw [HL.out, decide_eq_true hn]; rfl)
       have H1 := Hd C1
       clear C1 C2 hn
       go_wp2_with (go_at_call 251; with_reducible refine (H1.out _).mono ?_; rintro e w1 ⟨rfl, hb1⟩; have B1 := Zb HB.out hb1; obtain ⟨ad2, he2, hbl2, d0, d1, d2, d3⟩ := (HR.out.below B1).row4 hlt HE.out.1 HE.out.2.1 HE.out.2.2.1 HE.out.2.2.2; cases he2; rw [<- HQ.out] at d0 d1 d2 d3)
       go_ret
       have e : l.any Xu.long = true := List.any_eq_true.2 ⟨l[i], List.getElem_mem hlt, HL.out⟩
       exact ⟨by rw [e]; rfl, B1⟩
     . rw [decide_eq_false hn] at C1
       have H1 := Hd C1
       by_cases hm : 2048 < m
       . rw [decide_eq_true hm] at C2
         have HL := Hd (show l[i].long = true from by rw [HL.out, decide_eq_true hm, Bool.or_true])
         have H2 := Hd C2
         clear C1 C2 hn hm
         go_wp2_with (first | (go_at_call 251; with_reducible refine (H1.out _).mono ?_; rintro e w1 ⟨rfl, hb1⟩; have B1 := Zb HB.out hb1; obtain ⟨ad2, he2, hbl2, d0, d1, d2, d3⟩ := (HR.out.below B1).row4 hlt HE.out.1 HE.out.2.1 HE.out.2.2.1 HE.out.2.2.2; cases he2; rw [<- HQ.out] at d0 d1 d2 d3) | (go_at_call 251; with_reducible refine (H2.out _).mono ?_; rintro e w2 ⟨rfl, hb2⟩; have B2 := Zb B1 hb2))
         go_ret
         have e : l.any Xu.long = true := List.any_eq_true.2 ⟨l[i], List.getElem_mem hlt, HL.out⟩
         exact ⟨by rw [e]; rfl, B2⟩
       . rw [decide_eq_false hm] at C2
         have HL := Hd (show l[i].long = false from by rw [HL.out, decide_eq_false hn, decide_eq_false hm]; rfl)
         have H2 := Hd C2
         clear C1 C2 hn hm
         go_wp2_with (first | (go_at_call 251; with_reducible refine (H1.out _).mono ?_; rintro e w1 ⟨rfl, hb1⟩; have B1 := Zb HB.out hb1; obtain ⟨ad2, he2, hbl2, d0, d1, d2, d3⟩ := (HR.out.below B1).row4 hlt HE.out.1 HE.out.2.1 HE.out.2.2.1 HE.out.2.2.2; cases he2; rw [<- HQ.out] at d0 d1 d2 d3) | (go_at_call 251; with_reducible refine (H2.out _).mono ?_; rintro e w2 ⟨rfl, hb2⟩; have B2 := Zb B1 hb2))
         go_roundw
         case rel =>
           refine ⟨i + 1, by go_num, hlt, Hd fun j hj h => ?_, B2⟩
           rcases (by omega : j < i ∨ j = i) with hj | rfl
           . exact HN.out j hj h
           . exact HL.out
         case measure => simp [intOf]; omega
   . have HB := Hd hb
     clear hb
     go_wp2_with fail
     go_ret
     have e : l.any Xu.long = false := List.any_eq_false.2 fun x hx => by
       obtain ⟨j, hj, rfl⟩ := List.getElem_of_mem hx
       rw [HN.out j (by omega) hj]
       decide
     exact ⟨by rw [e]; rfl, HB.out⟩
theorem ref02_AnswerL (l : List Xu) (A : Option Addr) (c : Nat) (hl : l.length <= 9223372036854775807) (hs : ∀ q ∈ l, q.n <= 9223372036854775807 /\ q.m <= 9223372036854775807) (w : World) (h : ZO w w.heap.size 4 A l.length (XX l)) (b : Bool) (hb : b = l.any Xu.long) :
  Calls Tryz.prog 129 #[.slice A l.length c] w fun e w' => e = .returned (.int .i64 (if b then 4 else 0)) /\ Below w.heap.size w w' := by
 have C := ref02_LongL l A c hl hs w h
 rw [<- hb] at C
 have H := Hd C
 clear C hb h hs
 cases b with
 | true =>
  go_enter Tryz.func129, Tryz.ntmps129
  go_wp2_with (go_at_call 206; with_reducible refine H.out.mono ?_; rintro e w1 ⟨rfl, hb⟩)
  go_ret
  exact ⟨rfl, hb⟩
 | false =>
  go_enter Tryz.func129, Tryz.ntmps129
  go_wp2_with (go_at_call 206; with_reducible refine H.out.mono ?_; rintro e w1 ⟨rfl, hb⟩)
  go_ret
  exact ⟨rfl, hb⟩

theorem allocFracG {o : Oper} (h : o.op = .alloc 26) : AllocF Tryz.prog o 26 4 := by
 refine ⟨#[.bool false, .slice none 0 0, .bool false, .slice none 0 0], rfl, fun ρ w => ?_⟩
 unfold execOp
 rw [h]
 kernel_rfl
theorem YD : (Tryz.prog.info? 28).map (·.size) = some 8 := by kernel_rfl
abbrev OpW (w : World) (F : FuncId) (cap : Value) (n d m f N D : Int) : Prop := ∀ (V : World), Below w.heap.size w V -> ∀ (v1 v2 : Value), Yc V v1 n d -> Yc V v2 m f -> Calls Tryz.prog F #[v1, v2, cap] V (ZP V.heap.size V N D)

theorem each_Plus {n d m f p q r s N D M E : Int} (C1 : OpR 144 n d p q N D) (C2 : OpR 144 m f r s M E) (w : World) (v_x v_y : Value) (g_x : Zh w v_x n d m f) (g_y : Zh w v_y p q r s)  :
   Calls Tryz.prog 198 #[v_x, v_y, .func (.func 144) #[] #[]] w (ZN w.heap.size w N D M E) := by
 obtain ⟨Ax1, cx1, Ax2, cx2, Ax3, cx3, Ax4, cx4, rfl, -⟩ := g_x.form
 obtain ⟨Ay1, cy1, Ay2, cy2, Ay3, cy3, Ay4, cy4, rfl, -⟩ := g_y.form
 have H1 := Hd C1
 have H2 := Hd C2
 clear C1 C2
 have G_x := Hd g_x
 have G_y := Hd g_y
 clear g_x g_y
 go_enter Tryz.func198, Tryz.ntmps198
 go_upto_region 1 with fail
 refine Z0 (P := fun W => Code.wp _ _ _ _ W) fun W p0 p1 p2 b0 => ?_
 have P_x := Hd (ZF.mk p0)
 have P_y := Hd (ZF.mk p1)
 have PR := Hd (ZF.mk p2)
 have HB := Hd b0
 clear b0 p0 p1 p2
 have hsz := PR.out.blk.lt
 go_wp2_with fail
 refine Zc [.val (.func (.func 144) #[] #[]) [], .val (.pointer (some ⟨w.heap.size, 0, none⟩)) [], .val (.agg #[.bool (decide (n < 0)), .slice Ax1 (Za n.natAbs).length cx1, .bool (decide (d < 0)), .slice Ax2 (Za d.natAbs).length cx2]) [], .val (.pointer (some ⟨w.heap.size + 1, 0, none⟩)) [], .val (.agg #[.bool (decide (p < 0)), .slice Ay1 (Za p.natAbs).length cy1, .bool (decide (q < 0)), .slice Ay2 (Za q.natAbs).length cy2]) [], .any true (fun u V => Zk V w.heap.size u N D) [], .val (.func (.func 144) #[] #[]) [], .val (.pointer (some ⟨w.heap.size, 4, none⟩)) [], .val (.agg #[.bool (decide (m < 0)), .slice Ax3 (Za m.natAbs).length cx3, .bool (decide (f < 0)), .slice Ax4 (Za f.natAbs).length cx4]) [], .val (.pointer (some ⟨w.heap.size + 1, 4, none⟩)) [], .val (.agg #[.bool (decide (r < 0)), .slice Ay3 (Za r.natAbs).length cy3, .bool (decide (s < 0)), .slice Ay4 (Za s.natAbs).length cy4]) [], .any true (fun u V => Zk V w.heap.size u M E) [], .any false (fun u V => Zt V w.heap.size u N D M E) [5, 11, 1005011], .old (w.heap.size + 1 + 1) 28 #[.bool false, .slice none 0 0, .bool false, .slice none 0 0, .bool false, .slice none 0 0, .bool false, .slice none 0 0] 0 8 12 []] (w.heap.size + 1 + 1) W [28] Yb _ Zd (by omega) (Below.refl _ _) (Zr.refl _ _ _) rfl ?_ ?_ ?_ ?_ ?_ ?_ ?_ ?_ rfl (by simp [ZI]) ?_ ?_ ?_ ?_
 iterate 8 kernel_rfl
 . simp only [Zq, and_true]
   exact ⟨fun u V V' h k => h.kept k (by decide), fun u V V' h k => h.kept k (by decide), fun u V V' h k => h.kept k (by decide)⟩
 . simp only [ZK, and_true]
   exact ⟨Nat.le_refl _, PR.out.blk.lt, PR.out.blk, by simp⟩
 . simp (maxSteps := 4000000) [Zv, Z6, Ze, Zs, Zg]
   repeat' (first | apply And.intro | (intro (u : Value)) | (intro (u : Nat)))
   all_goals try exact ⟨_, _, _, rfl, rfl, rfl, rfl, YD⟩
   all_goals first
   | (intro V hV hK
      have qx : ZF V (w.heap.size) _ _ _ _ _ _ _ _ _ := ⟨P_x.out.blk.below hV (by omega)⟩
      obtain ⟨-, x0, x1, x2, x3, x4, x5, x6, x7⟩ := qx.facts
      have qy : ZF V (w.heap.size + 1) _ _ _ _ _ _ _ _ _ := ⟨P_y.out.blk.below hV (by omega)⟩
      obtain ⟨-, y0, y1, y2, y3, y4, y5, y6, y7⟩ := qy.facts
      have hvb := HB.out.trans (hV.mono (by omega))
      have hvs := hvb.size
      have g_x := Hd (G_x.out.below hvb)
      have g_y := Hd (G_y.out.below hvb)
      clear hV hK qx qy
      go_simp
      first
      | exact Below.refl _ _
      | ((with_reducible refine (H1.out V _ _ g_x.out.re g_y.out.re).mono ?_); rintro _ _ ⟨_, rfl, x, y⟩; exact ⟨x.base hvs, y, x.mine⟩)
      | ((with_reducible refine (H2.out V _ _ g_x.out.im g_y.out.im).mono ?_); rintro _ _ ⟨_, rfl, x, y⟩; exact ⟨x.base hvs, y, x.mine⟩))
   | (intro V hV hK h1 h2 hq
      obtain ⟨A1, c1, B1, e1, rfl, -, -, -⟩ := h1.form
      obtain ⟨A2, c2, B2, e2, rfl, -, -, -⟩ := h2.form
      clear hV hK
      go_simp
      exact ⟨⟨_, _, _, _, _, _, _, _, rfl, h1, h2, hq⟩, Below.refl _ _⟩)
   | exact fun _ _ _ (h : Zt _ _ _ _ _ _ _) => h.cells
 . simp [Z8, Zx, Ze, Zs, Zg]
   intro u1 u2 u3 V hV hK h1 h2 h3 bq _ _ _
   have HF := Hd h3
   obtain ⟨A6, c6, A7, c7, A8, c8, A9, c9, rfl, -⟩ := h3.form
   simp [ZT, Value.cells] at bq
   have k0 := bq.cell 0
   have k1 := bq.cell 1
   have k2 := bq.cell 2
   have k3 := bq.cell 3
   have k4 := bq.cell 4
   have k5 := bq.cell 5
   have k6 := bq.cell 6
   have k7 := bq.cell 7
   simp at k0 k1 k2 k3 k4 k5 k6 k7
   have HB9 := Hd (HB.out.trans (hV.mono (by omega)))
   clear h1 h2 h3 hV hK bq
   go_wp2_with fail
   exact bodyPost_ret (by simp [results, Tryz.results198, go_sem, k0, k1, k2, k3, k4, k5, k6, k7]) rfl ⟨_, rfl, HF.out, HB9.out⟩

theorem each_Minus {n d m f p q r s N D M E : Int} (C1 : OpR 143 n d p q N D) (C2 : OpR 143 m f r s M E) (w : World) (v_x v_y : Value) (g_x : Zh w v_x n d m f) (g_y : Zh w v_y p q r s)  :
   Calls Tryz.prog 198 #[v_x, v_y, .func (.func 143) #[] #[]] w (ZN w.heap.size w N D M E) := by
 obtain ⟨Ax1, cx1, Ax2, cx2, Ax3, cx3, Ax4, cx4, rfl, -⟩ := g_x.form
 obtain ⟨Ay1, cy1, Ay2, cy2, Ay3, cy3, Ay4, cy4, rfl, -⟩ := g_y.form
 have H1 := Hd C1
 have H2 := Hd C2
 clear C1 C2
 have G_x := Hd g_x
 have G_y := Hd g_y
 clear g_x g_y
 go_enter Tryz.func198, Tryz.ntmps198
 go_upto_region 1 with fail
 refine Z0 (P := fun W => Code.wp _ _ _ _ W) fun W p0 p1 p2 b0 => ?_
 have P_x := Hd (ZF.mk p0)
 have P_y := Hd (ZF.mk p1)
 have PR := Hd (ZF.mk p2)
 have HB := Hd b0
 clear b0 p0 p1 p2
 have hsz := PR.out.blk.lt
 go_wp2_with fail
 refine Zc [.val (.func (.func 143) #[] #[]) [], .val (.pointer (some ⟨w.heap.size, 0, none⟩)) [], .val (.agg #[.bool (decide (n < 0)), .slice Ax1 (Za n.natAbs).length cx1, .bool (decide (d < 0)), .slice Ax2 (Za d.natAbs).length cx2]) [], .val (.pointer (some ⟨w.heap.size + 1, 0, none⟩)) [], .val (.agg #[.bool (decide (p < 0)), .slice Ay1 (Za p.natAbs).length cy1, .bool (decide (q < 0)), .slice Ay2 (Za q.natAbs).length cy2]) [], .any true (fun u V => Zk V w.heap.size u N D) [], .val (.func (.func 143) #[] #[]) [], .val (.pointer (some ⟨w.heap.size, 4, none⟩)) [], .val (.agg #[.bool (decide (m < 0)), .slice Ax3 (Za m.natAbs).length cx3, .bool (decide (f < 0)), .slice Ax4 (Za f.natAbs).length cx4]) [], .val (.pointer (some ⟨w.heap.size + 1, 4, none⟩)) [], .val (.agg #[.bool (decide (r < 0)), .slice Ay3 (Za r.natAbs).length cy3, .bool (decide (s < 0)), .slice Ay4 (Za s.natAbs).length cy4]) [], .any true (fun u V => Zk V w.heap.size u M E) [], .any false (fun u V => Zt V w.heap.size u N D M E) [5, 11, 1005011], .old (w.heap.size + 1 + 1) 28 #[.bool false, .slice none 0 0, .bool false, .slice none 0 0, .bool false, .slice none 0 0, .bool false, .slice none 0 0] 0 8 12 []] (w.heap.size + 1 + 1) W [28] Yb _ Zd (by omega) (Below.refl _ _) (Zr.refl _ _ _) rfl ?_ ?_ ?_ ?_ ?_ ?_ ?_ ?_ rfl (by simp [ZI]) ?_ ?_ ?_ ?_
 iterate 8 kernel_rfl
 . simp only [Zq, and_true]
   exact ⟨fun u V V' h k => h.kept k (by decide), fun u V V' h k => h.kept k (by decide), fun u V V' h k => h.kept k (by decide)⟩
 . simp only [ZK, and_true]
   exact ⟨Nat.le_refl _, PR.out.blk.lt, PR.out.blk, by simp⟩
 . simp (maxSteps := 4000000) [Zv, Z6, Ze, Zs, Zg]
   repeat' (first | apply And.intro | (intro (u : Value)) | (intro (u : Nat)))
   all_goals try exact ⟨_, _, _, rfl, rfl, rfl, rfl, YD⟩
   all_goals first
   | (intro V hV hK
      have qx : ZF V (w.heap.size) _ _ _ _ _ _ _ _ _ := ⟨P_x.out.blk.below hV (by omega)⟩
      obtain ⟨-, x0, x1, x2, x3, x4, x5, x6, x7⟩ := qx.facts
      have qy : ZF V (w.heap.size + 1) _ _ _ _ _ _ _ _ _ := ⟨P_y.out.blk.below hV (by omega)⟩
      obtain ⟨-, y0, y1, y2, y3, y4, y5, y6, y7⟩ := qy.facts
      have hvb := HB.out.trans (hV.mono (by omega))
      have hvs := hvb.size
      have g_x := Hd (G_x.out.below hvb)
      have g_y := Hd (G_y.out.below hvb)
      clear hV hK qx qy
      go_simp
      first
      | exact Below.refl _ _
      | ((with_reducible refine (H1.out V _ _ g_x.out.re g_y.out.re).mono ?_); rintro _ _ ⟨_, rfl, x, y⟩; exact ⟨x.base hvs, y, x.mine⟩)
      | ((with_reducible refine (H2.out V _ _ g_x.out.im g_y.out.im).mono ?_); rintro _ _ ⟨_, rfl, x, y⟩; exact ⟨x.base hvs, y, x.mine⟩))
   | (intro V hV hK h1 h2 hq
      obtain ⟨A1, c1, B1, e1, rfl, -, -, -⟩ := h1.form
      obtain ⟨A2, c2, B2, e2, rfl, -, -, -⟩ := h2.form
      clear hV hK
      go_simp
      exact ⟨⟨_, _, _, _, _, _, _, _, rfl, h1, h2, hq⟩, Below.refl _ _⟩)
   | exact fun _ _ _ (h : Zt _ _ _ _ _ _ _) => h.cells
 . simp [Z8, Zx, Ze, Zs, Zg]
   intro u1 u2 u3 V hV hK h1 h2 h3 bq _ _ _
   have HF := Hd h3
   obtain ⟨A6, c6, A7, c7, A8, c8, A9, c9, rfl, -⟩ := h3.form
   simp [ZT, Value.cells] at bq
   have k0 := bq.cell 0
   have k1 := bq.cell 1
   have k2 := bq.cell 2
   have k3 := bq.cell 3
   have k4 := bq.cell 4
   have k5 := bq.cell 5
   have k6 := bq.cell 6
   have k7 := bq.cell 7
   simp at k0 k1 k2 k3 k4 k5 k6 k7
   have HB9 := Hd (HB.out.trans (hV.mono (by omega)))
   clear h1 h2 h3 hV hK bq
   go_wp2_with fail
   exact bodyPost_ret (by simp [results, Tryz.results198, go_sem, k0, k1, k2, k3, k4, k5, k6, k7]) rfl ⟨_, rfl, HF.out, HB9.out⟩

theorem each_Scaled {n d m f p q r s N D M E : Int} {cap : Value}  (w : World) (v_x v_y : Value) (g_x : Zh w v_x n d m f) (g_y : Zh w v_y p q r s) (C1 : OpW w 248 cap n d p q N D) (C2 : OpW w 248 cap m f r s M E) :
   Calls Tryz.prog 198 #[v_x, v_y, .func (.func 248) #[] #[cap]] w (ZN w.heap.size w N D M E) := by
 obtain ⟨Ax1, cx1, Ax2, cx2, Ax3, cx3, Ax4, cx4, rfl, -⟩ := g_x.form
 obtain ⟨Ay1, cy1, Ay2, cy2, Ay3, cy3, Ay4, cy4, rfl, -⟩ := g_y.form
 have H1 := Hd C1
 have H2 := Hd C2
 clear C1 C2
 have G_x := Hd g_x
 have G_y := Hd g_y
 clear g_x g_y
 go_enter Tryz.func198, Tryz.ntmps198
 go_upto_region 1 with fail
 refine Z0 (P := fun W => Code.wp _ _ _ _ W) fun W p0 p1 p2 b0 => ?_
 have P_x := Hd (ZF.mk p0)
 have P_y := Hd (ZF.mk p1)
 have PR := Hd (ZF.mk p2)
 have HB := Hd b0
 clear b0 p0 p1 p2
 have hsz := PR.out.blk.lt
 go_wp2_with fail
 refine Zc [.val (.func (.func 248) #[] #[cap]) [], .val (.pointer (some ⟨w.heap.size, 0, none⟩)) [], .val (.agg #[.bool (decide (n < 0)), .slice Ax1 (Za n.natAbs).length cx1, .bool (decide (d < 0)), .slice Ax2 (Za d.natAbs).length cx2]) [], .val (.pointer (some ⟨w.heap.size + 1, 0, none⟩)) [], .val (.agg #[.bool (decide (p < 0)), .slice Ay1 (Za p.natAbs).length cy1, .bool (decide (q < 0)), .slice Ay2 (Za q.natAbs).length cy2]) [], .any true (fun u V => Zk V w.heap.size u N D) [], .val (.func (.func 248) #[] #[cap]) [], .val (.pointer (some ⟨w.heap.size, 4, none⟩)) [], .val (.agg #[.bool (decide (m < 0)), .slice Ax3 (Za m.natAbs).length cx3, .bool (decide (f < 0)), .slice Ax4 (Za f.natAbs).length cx4]) [], .val (.pointer (some ⟨w.heap.size + 1, 4, none⟩)) [], .val (.agg #[.bool (decide (r < 0)), .slice Ay3 (Za r.natAbs).length cy3, .bool (decide (s < 0)), .slice Ay4 (Za s.natAbs).length cy4]) [], .any true (fun u V => Zk V w.heap.size u M E) [], .any false (fun u V => Zt V w.heap.size u N D M E) [5, 11, 1005011], .old (w.heap.size + 1 + 1) 28 #[.bool false, .slice none 0 0, .bool false, .slice none 0 0, .bool false, .slice none 0 0, .bool false, .slice none 0 0] 0 8 12 []] (w.heap.size + 1 + 1) W [28] Yb _ Zd (by omega) (Below.refl _ _) (Zr.refl _ _ _) rfl ?_ ?_ ?_ ?_ ?_ ?_ ?_ ?_ rfl (by simp [ZI]) ?_ ?_ ?_ ?_
 iterate 8 kernel_rfl
 . simp only [Zq, and_true]
   exact ⟨fun u V V' h k => h.kept k (by decide), fun u V V' h k => h.kept k (by decide), fun u V V' h k => h.kept k (by decide)⟩
 . simp only [ZK, and_true]
   exact ⟨Nat.le_refl _, PR.out.blk.lt, PR.out.blk, by simp⟩
 . simp (maxSteps := 4000000) [Zv, Z6, Ze, Zs, Zg]
   repeat' (first | apply And.intro | (intro (u : Value)) | (intro (u : Nat)))
   all_goals try exact ⟨_, _, _, rfl, rfl, rfl, rfl, YD⟩
   all_goals first
   | (intro V hV hK
      have qx : ZF V (w.heap.size) _ _ _ _ _ _ _ _ _ := ⟨P_x.out.blk.below hV (by omega)⟩
      obtain ⟨-, x0, x1, x2, x3, x4, x5, x6, x7⟩ := qx.facts
      have qy : ZF V (w.heap.size + 1) _ _ _ _ _ _ _ _ _ := ⟨P_y.out.blk.below hV (by omega)⟩
      obtain ⟨-, y0, y1, y2, y3, y4, y5, y6, y7⟩ := qy.facts
      have hvb := HB.out.trans (hV.mono (by omega))
      have hvs := hvb.size
      have g_x := Hd (G_x.out.below hvb)
      have g_y := Hd (G_y.out.below hvb)
      clear hV hK qx qy
      go_simp
      first
      | exact Below.refl _ _
      | ((with_reducible refine (H1.out V hvb _ _ g_x.out.re g_y.out.re).mono ?_); rintro _ _ ⟨_, rfl, x, y⟩; exact ⟨x.base hvs, y, x.mine⟩)
      | ((with_reducible refine (H2.out V hvb _ _ g_x.out.im g_y.out.im).mono ?_); rintro _ _ ⟨_, rfl, x, y⟩; exact ⟨x.base hvs, y, x.mine⟩))
   | (intro V hV hK h1 h2 hq
      obtain ⟨A1, c1, B1, e1, rfl, -, -, -⟩ := h1.form
      obtain ⟨A2, c2, B2, e2, rfl, -, -, -⟩ := h2.form
      clear hV hK
      go_simp
      exact ⟨⟨_, _, _, _, _, _, _, _, rfl, h1, h2, hq⟩, Below.refl _ _⟩)
   | exact fun _ _ _ (h : Zt _ _ _ _ _ _ _) => h.cells
 . simp [Z8, Zx, Ze, Zs, Zg]
   intro u1 u2 u3 V hV hK h1 h2 h3 bq _ _ _
   have HF := Hd h3
   obtain ⟨A6, c6, A7, c7, A8, c8, A9, c9, rfl, -⟩ := h3.form
   simp [ZT, Value.cells] at bq
   have k0 := bq.cell 0
   have k1 := bq.cell 1
   have k2 := bq.cell 2
   have k3 := bq.cell 3
   have k4 := bq.cell 4
   have k5 := bq.cell 5
   have k6 := bq.cell 6
   have k7 := bq.cell 7
   simp at k0 k1 k2 k3 k4 k5 k6 k7
   have HB9 := Hd (HB.out.trans (hV.mono (by omega)))
   clear h1 h2 h3 hV hK bq
   go_wp2_with fail
   exact bodyPost_ret (by simp [results, Tryz.results198, go_sem, k0, k1, k2, k3, k4, k5, k6, k7]) rfl ⟨_, rfl, HF.out, HB9.out⟩

theorem argand_Plus {n d m f p q r s N D M E : Int} (C1 : OpR 144 n d p q N D) (C2 : OpR 144 m f r s M E) (w : World) (v_x v_y : Value) (g_x : Zh w v_x n d m f) (g_y : Zh w v_y p q r s)  :
  Calls Tryz.prog 192 #[v_x, v_y] w (ZN w.heap.size w N D M E) := by
 obtain ⟨Ax1, cx1, Ax2, cx2, Ax3, cx3, Ax4, cx4, rfl, -⟩ := g_x.form
 obtain ⟨Ay1, cy1, Ay2, cy2, Ay3, cy3, Ay4, cy4, rfl, -⟩ := g_y.form
 have H1 := Hd C1
 have H2 := Hd C2
 clear C1 C2
 have G_x := Hd g_x
 have G_y := Hd g_y
 clear g_x g_y
 go_enter Tryz.func192, Tryz.ntmps192
 go_upto_region 1 with fail
 refine Z0 (P := fun W => Code.wp _ _ _ _ W) fun W p0 p1 p2 b0 => ?_
 have P_x := Hd (ZF.mk p0)
 have P_y := Hd (ZF.mk p1)
 have PR := Hd (ZF.mk p2)
 have HB := Hd b0
 clear b0 p0 p1 p2
 obtain ⟨-, x0, x1, x2, x3, x4, x5, x6, x7⟩ := P_x.out.facts
 obtain ⟨-, y0, y1, y2, y3, y4, y5, y6, y7⟩ := P_y.out.facts
 go_wp2_with fail
 refine (each_Plus H1.out H2.out W _ _ (G_x.out.below HB.out) (G_y.out.below HB.out)).mono ?_
 rintro e w9 ⟨v, rfl, hI, hb⟩
 clear x0 x1 x2 x3 x4 x5 x6 x7 y0 y1 y2 y3 y4 y5 y6 y7
 obtain ⟨A6, c6, A7, c7, A8, c8, A9, c9, rfl, -⟩ := hI.form
 have pr := PR.out.below hb
 have hb9 := Zb HB.out hb
 obtain ⟨l_r, r0, r1, r2, r3, r4, r5, r6, r7⟩ := pr.facts
 obtain ⟨f0, f1, f2, f3, f4, f5, f6, f7⟩ := pr.free
 have H9 := Hd (Y0 hI pr hb9 (show w.heap.size <= w.heap.size + 1 + 1 by omega) (by decide))
 clear hb hb9 pr hI
 go_wp2_with fail
 obtain ⟨_, k0, k1, k2, k3, k4, k5, k6, k7⟩ := H9.out.1.facts
 exact bodyPost_ret (by simp [results, Tryz.results192, go_sem, k0, k1, k2, k3, k4, k5, k6, k7]) rfl ⟨_, rfl, H9.out.2.2.base HB.out.size, H9.out.2.1⟩

theorem argand_Minus {n d m f p q r s N D M E : Int} (C1 : OpR 143 n d p q N D) (C2 : OpR 143 m f r s M E) (w : World) (v_x v_y : Value) (g_x : Zh w v_x n d m f) (g_y : Zh w v_y p q r s)  :
  Calls Tryz.prog 115 #[v_x, v_y] w (ZN w.heap.size w N D M E) := by
 obtain ⟨Ax1, cx1, Ax2, cx2, Ax3, cx3, Ax4, cx4, rfl, -⟩ := g_x.form
 obtain ⟨Ay1, cy1, Ay2, cy2, Ay3, cy3, Ay4, cy4, rfl, -⟩ := g_y.form
 have H1 := Hd C1
 have H2 := Hd C2
 clear C1 C2
 have G_x := Hd g_x
 have G_y := Hd g_y
 clear g_x g_y
 go_enter Tryz.func115, Tryz.ntmps115
 go_upto_region 1 with fail
 refine Z0 (P := fun W => Code.wp _ _ _ _ W) fun W p0 p1 p2 b0 => ?_
 have P_x := Hd (ZF.mk p0)
 have P_y := Hd (ZF.mk p1)
 have PR := Hd (ZF.mk p2)
 have HB := Hd b0
 clear b0 p0 p1 p2
 obtain ⟨-, x0, x1, x2, x3, x4, x5, x6, x7⟩ := P_x.out.facts
 obtain ⟨-, y0, y1, y2, y3, y4, y5, y6, y7⟩ := P_y.out.facts
 go_wp2_with fail
 refine (each_Minus H1.out H2.out W _ _ (G_x.out.below HB.out) (G_y.out.below HB.out)).mono ?_
 rintro e w9 ⟨v, rfl, hI, hb⟩
 clear x0 x1 x2 x3 x4 x5 x6 x7 y0 y1 y2 y3 y4 y5 y6 y7
 obtain ⟨A6, c6, A7, c7, A8, c8, A9, c9, rfl, -⟩ := hI.form
 have pr := PR.out.below hb
 have hb9 := Zb HB.out hb
 obtain ⟨l_r, r0, r1, r2, r3, r4, r5, r6, r7⟩ := pr.facts
 obtain ⟨f0, f1, f2, f3, f4, f5, f6, f7⟩ := pr.free
 have H9 := Hd (Y0 hI pr hb9 (show w.heap.size <= w.heap.size + 1 + 1 by omega) (by decide))
 clear hb hb9 pr hI
 go_wp2_with fail
 obtain ⟨_, k0, k1, k2, k3, k4, k5, k6, k7⟩ := H9.out.1.facts
 exact bodyPost_ret (by simp [results, Tryz.results115, go_sem, k0, k1, k2, k3, k4, k5, k6, k7]) rfl ⟨_, rfl, H9.out.2.2.base HB.out.size, H9.out.2.1⟩

theorem scaled_clos0 {n d m f p q N D : Int} (C1 : OpR 136 n d p q N D) (w : World) (v_a v_b : Value) (g_a : Yc w v_a n d) (g_b : Yc w v_b m f) {g : Nat} {A3 A4 : Option Addr} {c3 c4 : Nat} (h_q : ZB w g (.bool (decide (p < 0))) (.slice A3 (Za p.natAbs).length c3) (.bool (decide (q < 0))) (.slice A4 (Za q.natAbs).length c4)) (g_q : Yc w (.agg #[.bool (decide (p < 0)), .slice A3 (Za p.natAbs).length c3, .bool (decide (q < 0)), .slice A4 (Za q.natAbs).length c4]) p q) :
  Calls Tryz.prog 248 #[v_a, v_b, .pointer (some ⟨g, 0, none⟩)] w (ZP w.heap.size w N D) := by
 obtain ⟨Aa1, ca1, Aa2, ca2, rfl, -⟩ := g_a.form
 obtain ⟨Ab1, cb1, Ab2, cb2, rfl, -⟩ := g_b.form
 have HQ0 := Hd h_q
 have GQ := Hd g_q
 clear h_q g_q
 have H1 := Hd C1
 clear C1
 have G_a := Hd g_a
 have G_b := Hd g_b
 clear g_a g_b
 go_enter Tryz.func248, Tryz.ntmps248
 go_upto_region 1 with fail
 refine Z0 (P := fun W => Code.wp _ _ _ _ W) fun W p0 p1 p2 b0 => ?_
 have P_a := Hd (ZB.mk p0)
 have P_b := Hd (ZB.mk p1)
 have PR := Hd (ZB.mk p2)
 have HB := Hd b0
 clear b0 p0 p1 p2
 obtain ⟨l_q, q0, q1, q2, q3, -, -, -, -⟩ := (HQ0.out.below HB.out).facts
 obtain ⟨-, a_a0, a_a1, a_a2, a_a3, -, -, -, -⟩ := P_a.out.facts
 obtain ⟨-, a_b0, a_b1, a_b2, a_b3, -, -, -, -⟩ := P_b.out.facts
 go_wp2_with fail
 refine (H1.out W _ _ (G_a.out.below HB.out) (GQ.out.below HB.out)).mono ?_
 rintro e w9 ⟨v, rfl, hI, hb⟩
 clear a_a0 a_a1 a_a2 a_a3 a_b0 a_b1 a_b2 a_b3
 have HI := Hd hI
 obtain ⟨A6, c6, A7, c7, rfl, -⟩ := hI.form
 have pr := PR.out.below hb
 have hb9 := Zb HB.out hb
 obtain ⟨l_r, r0, r1, r2, r3, f0, f1, f2, f3⟩ := pr.facts
 have HQ := Hd (pr.store (.bool (decide (N < 0))) (.slice A6 (Za N.natAbs).length c6) (.bool (decide (D < 0))) (.slice A7 (Za D.natAbs).length c7))
 have HB9 := Hd (below4 hb9 (show w.heap.size <= w.heap.size + 1 + 1 by omega) (.bool (decide (N < 0))) (.slice A6 (Za N.natAbs).length c6) (.bool (decide (D < 0))) (.slice A7 (Za D.natAbs).length c7))
 have HF := Hd (HI.out.quad pr (.bool (decide (N < 0))) (.slice A6 (Za N.natAbs).length c6) (.bool (decide (D < 0))) (.slice A7 (Za D.natAbs).length c7))
 clear hb hb9 pr hI
 go_wp2_with fail
 obtain ⟨_, k0, k1, k2, k3, _, _, _, _⟩ := HQ.out.facts
 exact bodyPost_ret (by simp [results, Tryz.results248, go_sem, k0, k1, k2, k3]) rfl ⟨_, rfl, HF.out.base HB.out.size, HB9.out⟩

theorem scaled_clos {n d m f p q N D : Int} (C1 : OpR 136 n d p q N D) {w : World} {g : Nat} {A3 A4 : Option Addr} {c3 c4 : Nat} (h_q : ZB w g (.bool (decide (p < 0))) (.slice A3 (Za p.natAbs).length c3) (.bool (decide (q < 0))) (.slice A4 (Za q.natAbs).length c4)) (g_q : Yc w (.agg #[.bool (decide (p < 0)), .slice A3 (Za p.natAbs).length c3, .bool (decide (q < 0)), .slice A4 (Za q.natAbs).length c4]) p q) : OpW w 248 (.pointer (some ⟨g, 0, none⟩)) n d m f N D := fun V hV v1 v2 a1 a2 => scaled_clos0 C1 V v1 v2 a1 a2 (h_q.below hV) (g_q.below hV)

theorem argand_Scaled {n d m f p q N D M E : Int} (C1 : OpR 136 n d p q N D) (C2 : OpR 136 m f p q M E) (w : World) (v_x v_y : Value) (g_x : Zh w v_x n d m f) (g_y : Yc w v_y p q)  :
  Calls Tryz.prog 199 #[v_x, v_y] w (ZN w.heap.size w N D M E) := by
 obtain ⟨Ax1, cx1, Ax2, cx2, Ax3, cx3, Ax4, cx4, rfl, -⟩ := g_x.form
 obtain ⟨Ay1, cy1, Ay2, cy2, rfl, -⟩ := g_y.form
 have H1 := Hd C1
 have H2 := Hd C2
 clear C1 C2
 have G_x := Hd g_x
 have G_y := Hd g_y
 clear g_x g_y
 go_enter Tryz.func199, Tryz.ntmps199
 go_upto_region 1 with fail
 refine Z0 (P := fun W => Code.wp _ _ _ _ W) fun W p0 p1 p2 b0 => ?_
 have P_x := Hd (ZF.mk p0)
 have P_y := Hd (ZB.mk p1)
 have PR := Hd (ZF.mk p2)
 have HB := Hd b0
 clear b0 p0 p1 p2
 obtain ⟨-, x0, x1, x2, x3, x4, x5, x6, x7⟩ := P_x.out.facts
 obtain ⟨-, y0, y1, y2, y3, -, -, -, -⟩ := P_y.out.facts
 go_wp2_with fail
 refine (each_Scaled W _ _ (G_x.out.below HB.out) (G_x.out.below HB.out) (scaled_clos H1.out P_y.out (G_y.out.below HB.out)) (scaled_clos H2.out P_y.out (G_y.out.below HB.out))).mono ?_
 rintro e w9 ⟨v, rfl, hI, hb⟩
 clear x0 x1 x2 x3 x4 x5 x6 x7 y0 y1 y2 y3
 obtain ⟨A6, c6, A7, c7, A8, c8, A9, c9, rfl, -⟩ := hI.form
 have pr := PR.out.below hb
 have hb9 := Zb HB.out hb
 obtain ⟨l_r, r0, r1, r2, r3, r4, r5, r6, r7⟩ := pr.facts
 obtain ⟨f0, f1, f2, f3, f4, f5, f6, f7⟩ := pr.free
 have H9 := Hd (Y0 hI pr hb9 (show w.heap.size <= w.heap.size + 1 + 1 by omega) (by decide))
 clear hb hb9 pr hI
 go_wp2_with fail
 obtain ⟨_, k0, k1, k2, k3, k4, k5, k6, k7⟩ := H9.out.1.facts
 exact bodyPost_ret (by simp [results, Tryz.results199, go_sem, k0, k1, k2, k3, k4, k5, k6, k7]) rfl ⟨_, rfl, H9.out.2.2.base HB.out.size, H9.out.2.1⟩

theorem argand_Norm {n d m f p1 p2 q1 q2 N D : Int} (C1 : OpR 136 n d n d p1 p2) (C2 : OpR 136 m f m f q1 q2) (C3 : OpR 144 p1 p2 q1 q2 N D) (w : World) (v_x : Value) (g_x : Zh w v_x n d m f)  :
   Calls Tryz.prog 122 #[v_x] w (ZP w.heap.size w N D) := by
 obtain ⟨Ax1, cx1, Ax2, cx2, Ax3, cx3, Ax4, cx4, rfl, -⟩ := g_x.form
 have H1 := Hd C1
 have H2 := Hd C2
 have H3 := Hd C3
 clear C1 C2 C3
 have G_x := Hd g_x
 clear g_x
 go_enter Tryz.func122, Tryz.ntmps122
 go_upto_region 1 with fail
 refine XG (P := fun W => Code.wp _ _ _ _ W) fun W p0 p1 b0 => ?_
 have P_x := Hd (ZF.mk p0)
 have PR := Hd (ZB.mk p1)
 have HB := Hd b0
 clear b0 p0 p1
 have hsz := PR.out.blk.lt
 go_wp2_with fail
 refine Zc [.val (.pointer (some ⟨w.heap.size, 0, none⟩)) [], .val (.agg #[.bool (decide (n < 0)), .slice Ax1 (Za n.natAbs).length cx1, .bool (decide (d < 0)), .slice Ax2 (Za d.natAbs).length cx2]) [], .val (.pointer (some ⟨w.heap.size, 0, none⟩)) [], .val (.agg #[.bool (decide (n < 0)), .slice Ax1 (Za n.natAbs).length cx1, .bool (decide (d < 0)), .slice Ax2 (Za d.natAbs).length cx2]) [], .any true (fun u V => Zk V w.heap.size u p1 p2) [], .val (.pointer (some ⟨w.heap.size, 4, none⟩)) [], .val (.agg #[.bool (decide (m < 0)), .slice Ax3 (Za m.natAbs).length cx3, .bool (decide (f < 0)), .slice Ax4 (Za f.natAbs).length cx4]) [], .val (.pointer (some ⟨w.heap.size, 4, none⟩)) [], .val (.agg #[.bool (decide (m < 0)), .slice Ax3 (Za m.natAbs).length cx3, .bool (decide (f < 0)), .slice Ax4 (Za f.natAbs).length cx4]) [], .any true (fun u V => Zk V w.heap.size u q1 q2) [], .any false (fun u V => Zk V w.heap.size u N D) [4, 9], .old (w.heap.size + 1) 26 #[.bool false, .slice none 0 0, .bool false, .slice none 0 0] 0 4 10 []] (w.heap.size + 1) W [26] Yb _ Zd (by omega) (Below.refl _ _) (Zr.refl _ _ _) rfl ?_ ?_ ?_ ?_ ?_ ?_ ?_ ?_ rfl (by simp [ZI]) ?_ ?_ ?_ ?_
 iterate 8 kernel_rfl
 . simp only [Zq, and_true]
   exact ⟨fun u V V' h k => h.kept k (by decide), fun u V V' h k => h.kept k (by decide), fun u V V' h k => h.kept k (by decide)⟩
 . simp only [ZK, and_true]
   exact ⟨Nat.le_refl _, PR.out.blk.lt, PR.out.blk, by simp⟩
 . simp (maxSteps := 4000000) [Zv, Z6, Ze, Zs, Zg]
   repeat' (first | apply And.intro | (intro (u : Value)) | (intro (u : Nat)))
   all_goals try exact ⟨_, _, _, rfl, rfl, rfl, rfl, Yq⟩
   all_goals first
   | (intro V hV hK
      have qx : ZF V (w.heap.size) _ _ _ _ _ _ _ _ _ := ⟨P_x.out.blk.below hV (by omega)⟩
      obtain ⟨-, x0, x1, x2, x3, x4, x5, x6, x7⟩ := qx.facts
      have hvb := HB.out.trans (hV.mono (by omega))
      have hvs := hvb.size
      have g_x := Hd (G_x.out.below hvb)
      clear hV hK qx
      go_simp
      first
      | exact Below.refl _ _
      | ((with_reducible refine (H1.out V _ _ g_x.out.re g_x.out.re).mono ?_); rintro _ _ ⟨_, rfl, x, y⟩; exact ⟨x.base hvs, y, x.mine⟩)
      | ((with_reducible refine (H2.out V _ _ g_x.out.im g_x.out.im).mono ?_); rintro _ _ ⟨_, rfl, x, y⟩; exact ⟨x.base hvs, y, x.mine⟩))
   | (intro V hV hK h1 h2
      have qx : ZF V (w.heap.size) _ _ _ _ _ _ _ _ _ := ⟨P_x.out.blk.below hV (by omega)⟩
      obtain ⟨-, x0, x1, x2, x3, x4, x5, x6, x7⟩ := qx.facts
      have hvb := HB.out.trans (hV.mono (by omega))
      have hvs := hvb.size
      have g_x := Hd (G_x.out.below hvb)
      clear hV hK qx
      go_simp
      ((with_reducible refine (H3.out V _ _ h1.at_ h2.at_).mono ?_); rintro _ _ ⟨_, rfl, x, y⟩; exact ⟨x.base hvs, y⟩))
   | exact fun _ _ _ (h : Zk _ _ _ _ _) => h.cells
 . simp [Z8, Zx, Ze, Zs, Zg]
   intro u1 u2 u3 V hV hK h1 h2 h3 bq _ _ _
   have HF := Hd h3
   obtain ⟨A6, c6, A7, c7, rfl, -⟩ := h3.form
   simp [ZT, Value.cells] at bq
   have k0 := bq.cell 0
   have k1 := bq.cell 1
   have k2 := bq.cell 2
   have k3 := bq.cell 3
   simp at k0 k1 k2 k3
   have HB9 := Hd (HB.out.trans (hV.mono (by omega)))
   clear h1 h2 h3 hV hK bq
   go_wp2_with fail
   exact bodyPost_ret (by simp [results, Tryz.results122, go_sem, k0, k1, k2, k3]) rfl ⟨_, rfl, HF.out, HB9.out⟩

theorem argand_Conj {n d m f E : Int} (C1 : OpR1 201 n d n d) (C2 : OpR1 202 m f E f) (w : World) (v_x : Value) (g_x : Zh w v_x n d m f)  :
   Calls Tryz.prog 121 #[v_x] w (ZN w.heap.size w n d E f) := by
 obtain ⟨Ax1, cx1, Ax2, cx2, Ax3, cx3, Ax4, cx4, rfl, -⟩ := g_x.form
 have H1 := Hd C1
 have H2 := Hd C2
 clear C1 C2
 have G_x := Hd g_x
 clear g_x
 go_enter Tryz.func121, Tryz.ntmps121
 go_upto_region 1 with fail
 refine XG (P := fun W => Code.wp _ _ _ _ W) fun W p0 p1 b0 => ?_
 have P_x := Hd (ZF.mk p0)
 have PR := Hd (ZF.mk p1)
 have HB := Hd b0
 clear b0 p0 p1
 have hsz := PR.out.blk.lt
 go_wp2_with fail
 refine Zc [.val (.pointer (some ⟨w.heap.size, 0, none⟩)) [], .val (.agg #[.bool (decide (n < 0)), .slice Ax1 (Za n.natAbs).length cx1, .bool (decide (d < 0)), .slice Ax2 (Za d.natAbs).length cx2]) [], .any true (fun u V => Zk V w.heap.size u n d) [], .val (.pointer (some ⟨w.heap.size, 4, none⟩)) [], .val (.agg #[.bool (decide (m < 0)), .slice Ax3 (Za m.natAbs).length cx3, .bool (decide (f < 0)), .slice Ax4 (Za f.natAbs).length cx4]) [], .any true (fun u V => Zk V w.heap.size u E f) [], .any false (fun u V => Zt V w.heap.size u n d E f) [2, 5, 1002005], .old (w.heap.size + 1) 28 #[.bool false, .slice none 0 0, .bool false, .slice none 0 0, .bool false, .slice none 0 0, .bool false, .slice none 0 0] 0 8 6 []] (w.heap.size + 1) W [28] Yb _ Zd (by omega) (Below.refl _ _) (Zr.refl _ _ _) rfl ?_ ?_ ?_ ?_ ?_ ?_ ?_ ?_ rfl (by simp [ZI]) ?_ ?_ ?_ ?_
 iterate 8 kernel_rfl
 . simp only [Zq, and_true]
   exact ⟨fun u V V' h k => h.kept k (by decide), fun u V V' h k => h.kept k (by decide), fun u V V' h k => h.kept k (by decide)⟩
 . simp only [ZK, and_true]
   exact ⟨Nat.le_refl _, PR.out.blk.lt, PR.out.blk, by simp⟩
 . simp (maxSteps := 4000000) [Zv, Z6, Ze, Zs, Zg]
   repeat' (first | apply And.intro | (intro (u : Value)) | (intro (u : Nat)))
   all_goals try exact ⟨_, _, _, rfl, rfl, rfl, rfl, YD⟩
   all_goals first
   | (intro V hV hK
      have qx : ZF V (w.heap.size) _ _ _ _ _ _ _ _ _ := ⟨P_x.out.blk.below hV (by omega)⟩
      obtain ⟨-, x0, x1, x2, x3, x4, x5, x6, x7⟩ := qx.facts
      have hvb := HB.out.trans (hV.mono (by omega))
      have hvs := hvb.size
      have g_x := Hd (G_x.out.below hvb)
      clear hV hK qx
      go_simp
      first
      | exact Below.refl _ _
      | ((with_reducible refine (H1.out V _ g_x.out.re).mono ?_); rintro _ _ ⟨_, rfl, x, y⟩; exact ⟨x.base hvs, y, x.mine⟩)
      | ((with_reducible refine (H2.out V _ g_x.out.im).mono ?_); rintro _ _ ⟨_, rfl, x, y⟩; exact ⟨x.base hvs, y, x.mine⟩))
   | (intro V hV hK h1 h2 hq
      obtain ⟨A1, c1, B1, e1, rfl, -, -, -⟩ := h1.form
      obtain ⟨A2, c2, B2, e2, rfl, -, -, -⟩ := h2.form
      clear hV hK
      go_simp
      exact ⟨⟨_, _, _, _, _, _, _, _, rfl, h1, h2, hq⟩, Below.refl _ _⟩)
   | exact fun _ _ _ (h : Zt _ _ _ _ _ _ _) => h.cells
 . simp [Z8, Zx, Ze, Zs, Zg]
   intro u1 u2 u3 V hV hK h1 h2 h3 bq _ _ _
   have HF := Hd h3
   obtain ⟨A6, c6, A7, c7, A8, c8, A9, c9, rfl, -⟩ := h3.form
   simp [ZT, Value.cells] at bq
   have k0 := bq.cell 0
   have k1 := bq.cell 1
   have k2 := bq.cell 2
   have k3 := bq.cell 3
   have k4 := bq.cell 4
   have k5 := bq.cell 5
   have k6 := bq.cell 6
   have k7 := bq.cell 7
   simp at k0 k1 k2 k3 k4 k5 k6 k7
   have HB9 := Hd (HB.out.trans (hV.mono (by omega)))
   clear h1 h2 h3 hV hK bq
   go_wp2_with fail
   exact bodyPost_ret (by simp [results, Tryz.results121, go_sem, k0, k1, k2, k3, k4, k5, k6, k7]) rfl ⟨_, rfl, HF.out, HB9.out⟩

theorem argand_Over {n d m f p q r s k1 k2 t1 t2 t3 t4 o1 o2 n1 n2 N D M E : Int} (C1 : OpG1 121 p q r s p q k1 k2) (C2 : OpG 191 n d m f p q k1 k2 t1 t2 t3 t4) (C3 : OpR0 200 1 1) (C4 : OpN 122 p q r s n1 n2) (C5 : OpR 146 1 1 n1 n2 o1 o2) (C6 : OpGF 199 t1 t2 t3 t4 o1 o2 N D M E) (w : World) (v_x v_y : Value) (g_x : Zh w v_x n d m f) (g_y : Zh w v_y p q r s)  :
   Calls Tryz.prog 117 #[v_x, v_y] w (ZN w.heap.size w N D M E) := by
 obtain ⟨Ax1, cx1, Ax2, cx2, Ax3, cx3, Ax4, cx4, rfl, -⟩ := g_x.form
 obtain ⟨Ay1, cy1, Ay2, cy2, Ay3, cy3, Ay4, cy4, rfl, -⟩ := g_y.form
 have H1 := Hd C1
 have H2 := Hd C2
 have H3 := Hd C3
 have H4 := Hd C4
 have H5 := Hd C5
 have H6 := Hd C6
 clear C1 C2 C3 C4 C5 C6
 have G_x := Hd g_x
 have G_y := Hd g_y
 clear g_x g_y
 go_enter Tryz.func117, Tryz.ntmps117
 go_upto_region 1 with fail
 refine Z0 (P := fun W => Code.wp _ _ _ _ W) fun W p0 p1 p2 b0 => ?_
 have P_x := Hd (ZF.mk p0)
 have P_y := Hd (ZF.mk p1)
 have PR := Hd (ZF.mk p2)
 have HB := Hd b0
 clear b0 p0 p1 p2
 have hsz := PR.out.blk.lt
 go_wp2_with fail
 refine Zc [.val (.agg #[.bool (decide (n < 0)), .slice Ax1 (Za n.natAbs).length cx1, .bool (decide (d < 0)), .slice Ax2 (Za d.natAbs).length cx2, .bool (decide (m < 0)), .slice Ax3 (Za m.natAbs).length cx3, .bool (decide (f < 0)), .slice Ax4 (Za f.natAbs).length cx4]) [], .val (.agg #[.bool (decide (p < 0)), .slice Ay1 (Za p.natAbs).length cy1, .bool (decide (q < 0)), .slice Ay2 (Za q.natAbs).length cy2, .bool (decide (r < 0)), .slice Ay3 (Za r.natAbs).length cy3, .bool (decide (s < 0)), .slice Ay4 (Za s.natAbs).length cy4]) [], .any false (fun u V => Zt V w.heap.size u p q k1 k2) [], .any false (fun u V => Zt V w.heap.size u t1 t2 t3 t4) [2], .any false (fun u V => Zk V w.heap.size u 1 1) [], .val (.agg #[.bool (decide (p < 0)), .slice Ay1 (Za p.natAbs).length cy1, .bool (decide (q < 0)), .slice Ay2 (Za q.natAbs).length cy2, .bool (decide (r < 0)), .slice Ay3 (Za r.natAbs).length cy3, .bool (decide (s < 0)), .slice Ay4 (Za s.natAbs).length cy4]) [], .any false (fun u V => Zk V w.heap.size u n1 n2) [], .any false (fun u V => Zk V w.heap.size u o1 o2) [4, 6], .any false (fun u V => Zt V w.heap.size u N D M E) [3, 7], .old (w.heap.size + 1 + 1) 28 #[.bool false, .slice none 0 0, .bool false, .slice none 0 0, .bool false, .slice none 0 0, .bool false, .slice none 0 0] 0 8 8 []] (w.heap.size + 1 + 1) W [28] Yb _ Zd (by omega) (Below.refl _ _) (Zr.refl _ _ _) rfl ?_ ?_ ?_ ?_ ?_ ?_ ?_ ?_ rfl (by simp [ZI]) ?_ ?_ ?_ ?_
 iterate 8 kernel_rfl
 . simp only [Zq, and_true]
   exact ⟨fun u V V' h k => h.kept k (by decide), fun u V V' h k => h.kept k (by decide), fun u V V' h k => h.kept k (by decide), fun u V V' h k => h.kept k (by decide), fun u V V' h k => h.kept k (by decide), fun u V V' h k => h.kept k (by decide)⟩
 . simp only [ZK, and_true]
   exact ⟨Nat.le_refl _, PR.out.blk.lt, PR.out.blk, by simp⟩
 . simp (maxSteps := 4000000) [Zv, Z6, Ze, Zs, Zg]
   repeat' (first | apply And.intro | (intro (u : Value)) | (intro (u : Nat)))
   all_goals try exact ⟨_, _, _, rfl, rfl, rfl, rfl, YD⟩
   all_goals first
   | (intro V hV hK
      have qx : ZF V (w.heap.size) _ _ _ _ _ _ _ _ _ := ⟨P_x.out.blk.below hV (by omega)⟩
      obtain ⟨-, x0, x1, x2, x3, x4, x5, x6, x7⟩ := qx.facts
      have qy : ZF V (w.heap.size + 1) _ _ _ _ _ _ _ _ _ := ⟨P_y.out.blk.below hV (by omega)⟩
      obtain ⟨-, y0, y1, y2, y3, y4, y5, y6, y7⟩ := qy.facts
      have hvb := HB.out.trans (hV.mono (by omega))
      have hvs := hvb.size
      have g_x := Hd (G_x.out.below hvb)
      have g_y := Hd (G_y.out.below hvb)
      clear hV hK qx qy
      go_simp
      first
      | exact Below.refl _ _
      | ((with_reducible refine (H1.out V _ g_y.out).mono ?_); rintro _ _ ⟨_, rfl, x, y⟩; exact ⟨x.base hvs, y⟩)
      | ((with_reducible refine (H3.out V ).mono ?_); rintro _ _ ⟨_, rfl, x, y⟩; exact ⟨x.base hvs, y⟩)
      | ((with_reducible refine (H4.out V _ g_y.out).mono ?_); rintro _ _ ⟨_, rfl, x, y⟩; exact ⟨x.base hvs, y⟩))
   | (intro V hV hK h1
      have qx : ZF V (w.heap.size) _ _ _ _ _ _ _ _ _ := ⟨P_x.out.blk.below hV (by omega)⟩
      obtain ⟨-, x0, x1, x2, x3, x4, x5, x6, x7⟩ := qx.facts
      have qy : ZF V (w.heap.size + 1) _ _ _ _ _ _ _ _ _ := ⟨P_y.out.blk.below hV (by omega)⟩
      obtain ⟨-, y0, y1, y2, y3, y4, y5, y6, y7⟩ := qy.facts
      have hvb := HB.out.trans (hV.mono (by omega))
      have hvs := hvb.size
      have g_x := Hd (G_x.out.below hvb)
      have g_y := Hd (G_y.out.below hvb)
      clear hV hK qx qy
      go_simp
      ((with_reducible refine (H2.out V _ _ g_x.out h1.in_.at_).mono ?_); rintro _ _ ⟨_, rfl, x, y⟩; exact ⟨x.base hvs, y⟩))
   | (intro V hV hK h1 h2
      have qx : ZF V (w.heap.size) _ _ _ _ _ _ _ _ _ := ⟨P_x.out.blk.below hV (by omega)⟩
      obtain ⟨-, x0, x1, x2, x3, x4, x5, x6, x7⟩ := qx.facts
      have qy : ZF V (w.heap.size + 1) _ _ _ _ _ _ _ _ _ := ⟨P_y.out.blk.below hV (by omega)⟩
      obtain ⟨-, y0, y1, y2, y3, y4, y5, y6, y7⟩ := qy.facts
      have hvb := HB.out.trans (hV.mono (by omega))
      have hvs := hvb.size
      have g_x := Hd (G_x.out.below hvb)
      have g_y := Hd (G_y.out.below hvb)
      clear hV hK qx qy
      go_simp
      ((with_reducible refine (H5.out V _ _ h1.at_ h2.at_).mono ?_); rintro _ _ ⟨_, rfl, x, y⟩; exact ⟨x.base hvs, y⟩))
   | (intro V hV hK h1 h2
      have qx : ZF V (w.heap.size) _ _ _ _ _ _ _ _ _ := ⟨P_x.out.blk.below hV (by omega)⟩
      obtain ⟨-, x0, x1, x2, x3, x4, x5, x6, x7⟩ := qx.facts
      have qy : ZF V (w.heap.size + 1) _ _ _ _ _ _ _ _ _ := ⟨P_y.out.blk.below hV (by omega)⟩
      obtain ⟨-, y0, y1, y2, y3, y4, y5, y6, y7⟩ := qy.facts
      have hvb := HB.out.trans (hV.mono (by omega))
      have hvs := hvb.size
      have g_x := Hd (G_x.out.below hvb)
      have g_y := Hd (G_y.out.below hvb)
      clear hV hK qx qy
      go_simp
      ((with_reducible refine (H6.out V _ _ h1.in_.at_ h2.at_).mono ?_); rintro _ _ ⟨_, rfl, x, y⟩; exact ⟨x.base hvs, y⟩))
   | exact fun _ _ _ (h : Zt _ _ _ _ _ _ _) => h.cells
 . simp [Z8, Zx, Ze, Zs, Zg]
   intro u1 u2 u3 u4 u5 u6 V hV hK h1 h2 h3 h4 h5 h6 bq _ _ _
   have HF := Hd h6
   obtain ⟨A6, c6, A7, c7, A8, c8, A9, c9, rfl, -⟩ := h6.form
   simp [ZT, Value.cells] at bq
   have k0 := bq.cell 0
   have k1 := bq.cell 1
   have k2 := bq.cell 2
   have k3 := bq.cell 3
   have k4 := bq.cell 4
   have k5 := bq.cell 5
   have k6 := bq.cell 6
   have k7 := bq.cell 7
   simp at k0 k1 k2 k3 k4 k5 k6 k7
   have HB9 := Hd (HB.out.trans (hV.mono (by omega)))
   clear h1 h2 h3 h4 h5 h6 hV hK bq
   go_wp2_with fail
   exact bodyPost_ret (by simp [results, Tryz.results117, go_sem, k0, k1, k2, k3, k4, k5, k6, k7]) rfl ⟨_, rfl, HF.out, HB9.out⟩

theorem argand_Times_a {n d m f p q r s N D M E s0 : Int} (C1 : SgnF 138 m f s0) (hz : (s0 == 0) = true) (C2 : OpGF 199 p q r s n d N D M E) (w : World) (v_x v_y : Value) (g_x : Zh w v_x n d m f) (g_y : Zh w v_y p q r s)  :
  Calls Tryz.prog 191 #[v_x, v_y] w (ZN w.heap.size w N D M E) := by
 obtain ⟨Ax1, cx1, Ax2, cx2, Ax3, cx3, Ax4, cx4, rfl, -⟩ := g_x.form
 obtain ⟨Ay1, cy1, Ay2, cy2, Ay3, cy3, Ay4, cy4, rfl, -⟩ := g_y.form
 have H1 := Hd C1
 have H2 := Hd C2
 clear C1 C2
 have G_x := Hd g_x
 have G_y := Hd g_y
 clear g_x g_y
 go_enter Tryz.func191, Tryz.ntmps191
 go_upto_region 1 with fail
 refine Z0 (P := fun W => Code.wp _ _ _ _ W) fun W p0 p1 p2 b0 => ?_
 have P_x := Hd (ZF.mk p0)
 have P_y := Hd (ZF.mk p1)
 have PR := Hd (ZF.mk p2)
 have HB := Hd b0
 clear b0 p0 p1 p2
 obtain ⟨-, x0, x1, x2, x3, x4, x5, x6, x7⟩ := P_x.out.facts
 go_wp2_with fail
 refine (H1.out W _ (G_x.out.below HB.out).im).mono ?_
 rintro e wx1 ⟨rfl, hb⟩
 clear x0 x1 x2 x3 x4 x5 x6 x7
 have P_x := Hd (P_x.out.below hb)
 have P_y := Hd (P_y.out.below hb)
 have PR := Hd (PR.out.below hb)
 have HB := Hd (Zb HB.out hb)
 clear hb
 obtain ⟨-, x0, x1, x2, x3, x4, x5, x6, x7⟩ := P_x.out.facts
 obtain ⟨-, y0, y1, y2, y3, y4, y5, y6, y7⟩ := P_y.out.facts
 go_wp2_with fail
 refine (H2.out wx1 _ _ (G_y.out.below HB.out) (G_x.out.below HB.out).re).mono ?_
 rintro e w9 ⟨v, rfl, hI, hb⟩
 clear x0 x1 x2 x3 x4 x5 x6 x7 y0 y1 y2 y3 y4 y5 y6 y7
 obtain ⟨A6, c6, A7, c7, A8, c8, A9, c9, rfl, -⟩ := hI.form
 have pr := PR.out.below hb
 have hb9 := Zb HB.out hb
 obtain ⟨l_r, r0, r1, r2, r3, r4, r5, r6, r7⟩ := pr.facts
 obtain ⟨f0, f1, f2, f3, f4, f5, f6, f7⟩ := pr.free
 have H9 := Hd (Y0 hI pr hb9 (show w.heap.size <= w.heap.size + 1 + 1 by omega) (by decide))
 clear hb hb9 pr hI
 go_wp2_with fail
 obtain ⟨_, k0, k1, k2, k3, k4, k5, k6, k7⟩ := H9.out.1.facts
 exact bodyPost_ret (by simp [results, Tryz.results191, go_sem, k0, k1, k2, k3, k4, k5, k6, k7]) rfl ⟨_, rfl, H9.out.2.2.base HB.out.size, H9.out.2.1⟩

theorem argand_Times_b {n d m f p q r s N D M E s0 s1 : Int} (C0 : SgnF 138 m f s0) (hz0 : (s0 == 0) = false) (C1 : SgnF 138 r s s1) (hz : (s1 == 0) = true) (C2 : OpGF 199 n d m f p q N D M E) (w : World) (v_x v_y : Value) (g_x : Zh w v_x n d m f) (g_y : Zh w v_y p q r s)  :
  Calls Tryz.prog 191 #[v_x, v_y] w (ZN w.heap.size w N D M E) := by
 obtain ⟨Ax1, cx1, Ax2, cx2, Ax3, cx3, Ax4, cx4, rfl, -⟩ := g_x.form
 obtain ⟨Ay1, cy1, Ay2, cy2, Ay3, cy3, Ay4, cy4, rfl, -⟩ := g_y.form
 have H0 := Hd C0
 have H1 := Hd C1
 have H2 := Hd C2
 clear C0 C1 C2
 have G_x := Hd g_x
 have G_y := Hd g_y
 clear g_x g_y
 go_enter Tryz.func191, Tryz.ntmps191
 go_upto_region 1 with fail
 refine Z0 (P := fun W => Code.wp _ _ _ _ W) fun W p0 p1 p2 b0 => ?_
 have P_x := Hd (ZF.mk p0)
 have P_y := Hd (ZF.mk p1)
 have PR := Hd (ZF.mk p2)
 have HB := Hd b0
 clear b0 p0 p1 p2
 obtain ⟨-, x0, x1, x2, x3, x4, x5, x6, x7⟩ := P_x.out.facts
 go_wp2_with fail
 refine (H0.out W _ (G_x.out.below HB.out).im).mono ?_
 rintro e wx1 ⟨rfl, hb⟩
 clear x0 x1 x2 x3 x4 x5 x6 x7
 have P_x := Hd (P_x.out.below hb)
 have P_y := Hd (P_y.out.below hb)
 have PR := Hd (PR.out.below hb)
 have HB := Hd (Zb HB.out hb)
 clear hb
 obtain ⟨-, y0, y1, y2, y3, y4, y5, y6, y7⟩ := P_y.out.facts
 go_wp2_with fail
 refine (H1.out wx1 _ (G_y.out.below HB.out).im).mono ?_
 rintro e wx2 ⟨rfl, hb⟩
 clear y0 y1 y2 y3 y4 y5 y6 y7
 have P_x := Hd (P_x.out.below hb)
 have P_y := Hd (P_y.out.below hb)
 have PR := Hd (PR.out.below hb)
 have HB := Hd (Zb HB.out hb)
 clear hb
 obtain ⟨-, x0, x1, x2, x3, x4, x5, x6, x7⟩ := P_x.out.facts
 obtain ⟨-, y0, y1, y2, y3, y4, y5, y6, y7⟩ := P_y.out.facts
 go_wp2_with fail
 refine (H2.out wx2 _ _ (G_x.out.below HB.out) (G_y.out.below HB.out).re).mono ?_
 rintro e w9 ⟨v, rfl, hI, hb⟩
 clear x0 x1 x2 x3 x4 x5 x6 x7 y0 y1 y2 y3 y4 y5 y6 y7
 obtain ⟨A6, c6, A7, c7, A8, c8, A9, c9, rfl, -⟩ := hI.form
 have pr := PR.out.below hb
 have hb9 := Zb HB.out hb
 obtain ⟨l_r, r0, r1, r2, r3, r4, r5, r6, r7⟩ := pr.facts
 obtain ⟨f0, f1, f2, f3, f4, f5, f6, f7⟩ := pr.free
 have H9 := Hd (Y0 hI pr hb9 (show w.heap.size <= w.heap.size + 1 + 1 by omega) (by decide))
 clear hb hb9 pr hI
 go_wp2_with fail
 obtain ⟨_, k0, k1, k2, k3, k4, k5, k6, k7⟩ := H9.out.1.facts
 exact bodyPost_ret (by simp [results, Tryz.results191, go_sem, k0, k1, k2, k3, k4, k5, k6, k7]) rfl ⟨_, rfl, H9.out.2.2.base HB.out.size, H9.out.2.1⟩

theorem argand_Times_c {n d m f p q r s N D M E s0 s1 p1 p2 q1 q2 a1 a2 b1 b2 r1 r2 j1 j2 : Int} (C1 : SgnF 138 m f s0) (hz : (s0 == 0) = false) (C2 : SgnF 138 r s s1) (hz1 : (s1 == 0) = false) (C3 : OpR 136 n d p q p1 p2) (C4 : OpR 136 m f r s q1 q2) (C5 : OpR 144 n d m f a1 a2) (C6 : OpR 144 p q r s b1 b2) (C7 : OpR 136 a1 a2 b1 b2 r1 r2) (C8 : OpR 143 p1 p2 q1 q2 N D) (C9 : OpR 144 p1 p2 q1 q2 j1 j2) (C10 : OpR 143 r1 r2 j1 j2 M E) (w : World) (v_x v_y : Value) (g_x : Zh w v_x n d m f) (g_y : Zh w v_y p q r s)  :
   Calls Tryz.prog 191 #[v_x, v_y] w (ZN w.heap.size w N D M E) := by
 obtain ⟨Ax1, cx1, Ax2, cx2, Ax3, cx3, Ax4, cx4, rfl, -⟩ := g_x.form
 obtain ⟨Ay1, cy1, Ay2, cy2, Ay3, cy3, Ay4, cy4, rfl, -⟩ := g_y.form
 have H1 := Hd C1
 have H2 := Hd C2
 have H3 := Hd C3
 have H4 := Hd C4
 have H5 := Hd C5
 have H6 := Hd C6
 have H7 := Hd C7
 have H8 := Hd C8
 have H9 := Hd C9
 have H10 := Hd C10
 clear C1 C2 C3 C4 C5 C6 C7 C8 C9 C10
 have G_x := Hd g_x
 have G_y := Hd g_y
 clear g_x g_y
 go_enter Tryz.func191, Tryz.ntmps191
 go_upto_region 1 with fail
 refine Z0 (P := fun W => Code.wp _ _ _ _ W) fun W p0 p1 p2 b0 => ?_
 have P_x := Hd (ZF.mk p0)
 have P_y := Hd (ZF.mk p1)
 have PR := Hd (ZF.mk p2)
 have HB := Hd b0
 clear b0 p0 p1 p2
 obtain ⟨-, x0, x1, x2, x3, x4, x5, x6, x7⟩ := P_x.out.facts
 go_wp2_with fail
 refine (H1.out W _ (G_x.out.below HB.out).im).mono ?_
 rintro e wx1 ⟨rfl, hb⟩
 clear x0 x1 x2 x3 x4 x5 x6 x7
 have P_x := Hd (P_x.out.below hb)
 have P_y := Hd (P_y.out.below hb)
 have PR := Hd (PR.out.below hb)
 have HB := Hd (Zb HB.out hb)
 clear hb
 obtain ⟨-, y0, y1, y2, y3, y4, y5, y6, y7⟩ := P_y.out.facts
 go_wp2_with fail
 refine (H2.out wx1 _ (G_y.out.below HB.out).im).mono ?_
 rintro e wx2 ⟨rfl, hb⟩
 clear y0 y1 y2 y3 y4 y5 y6 y7
 have P_x := Hd (P_x.out.below hb)
 have P_y := Hd (P_y.out.below hb)
 have PR := Hd (PR.out.below hb)
 have HB := Hd (Zb HB.out hb)
 clear hb
 go_wp2_with fail
 refine Zc [.val (.pointer (some ⟨w.heap.size, 0, none⟩)) [], .val (.agg #[.bool (decide (n < 0)), .slice Ax1 (Za n.natAbs).length cx1, .bool (decide (d < 0)), .slice Ax2 (Za d.natAbs).length cx2]) [], .val (.pointer (some ⟨w.heap.size + 1, 0, none⟩)) [], .val (.agg #[.bool (decide (p < 0)), .slice Ay1 (Za p.natAbs).length cy1, .bool (decide (q < 0)), .slice Ay2 (Za q.natAbs).length cy2]) [], .any false (fun u V => Zk V w.heap.size u p1 p2) [], .val (.pointer (some ⟨w.heap.size, 4, none⟩)) [], .val (.agg #[.bool (decide (m < 0)), .slice Ax3 (Za m.natAbs).length cx3, .bool (decide (f < 0)), .slice Ax4 (Za f.natAbs).length cx4]) [], .val (.pointer (some ⟨w.heap.size + 1, 4, none⟩)) [], .val (.agg #[.bool (decide (r < 0)), .slice Ay3 (Za r.natAbs).length cy3, .bool (decide (s < 0)), .slice Ay4 (Za s.natAbs).length cy4]) [], .any false (fun u V => Zk V w.heap.size u q1 q2) [], .new 26 4, .new 26 4, .put 26 4 10 4 [], .put 26 4 11 9 []] wx2.heap.size wx2 [26] Yb _ Zd (Nat.le_refl _) (Below.refl _ _) (Zr.refl _ _ _) rfl ?_ ?_ ?_ ?_ ?_ ?_ ?_ ?_ rfl (by simp [ZI]) ?_ ?_ ?_ ?_
 iterate 8 kernel_rfl
 . simp only [Zq, and_true]
   exact ⟨fun u V V' h k => h.kept k (by decide), fun u V V' h k => h.kept k (by decide)⟩
 . simp only [ZK]
 . simp (maxSteps := 4000000) [Zv, Z6, Ze, Zs, Zg]
   repeat' (first | apply And.intro | (intro (u : Value)) | (intro (u : Nat)))
   all_goals try exact ⟨_, _, _, rfl, rfl, rfl, rfl, Yq⟩
   all_goals try exact allocFracG rfl
   all_goals first
   | (intro V hV hK
      have hs_x := P_x.out.blk.lt
      have hs_y := P_y.out.blk.lt
      have qx : ZF V (w.heap.size) _ _ _ _ _ _ _ _ _ := ⟨P_x.out.blk.below hV (by omega)⟩
      obtain ⟨-, x0, x1, x2, x3, x4, x5, x6, x7⟩ := qx.facts
      have qy : ZF V (w.heap.size + 1) _ _ _ _ _ _ _ _ _ := ⟨P_y.out.blk.below hV (by omega)⟩
      obtain ⟨-, y0, y1, y2, y3, y4, y5, y6, y7⟩ := qy.facts
      have hvb := HB.out.trans (hV.mono (by omega))
      have hvs := hvb.size
      have g_x := Hd (G_x.out.below hvb)
      have g_y := Hd (G_y.out.below hvb)
      clear hV hK qx qy
      go_simp
      first
      | exact Below.refl _ _
      | ((with_reducible refine (H3.out V _ _ g_x.out.re g_y.out.re).mono ?_); rintro _ _ ⟨_, rfl, x, y⟩; exact ⟨x.base hvs, y⟩)
      | ((with_reducible refine (H4.out V _ _ g_x.out.im g_y.out.im).mono ?_); rintro _ _ ⟨_, rfl, x, y⟩; exact ⟨x.base hvs, y⟩))
   | exact fun _ _ _ (h : Zk _ _ _ _ _) => h.cells
   | exact fun _ _ _ (h : Zk _ _ _ _ _) _ => h.cells
 . simp [Z8, Zx, Ze, Zs, Zg]
   intro u1 u2 b_vp hb_vp b_vq hb_vq V3 hV hK h1 h2 p_vp p_vq _ _ _
   have N_vp := Hd (show b_vp ≠ w.heap.size + 1 + 1 from by have := PR.out.blk.lt; omega)
   have N_vq := Hd (show b_vq ≠ w.heap.size + 1 + 1 from by have := PR.out.blk.lt; omega)
   have O_vp := Hd h1.in_
   obtain ⟨Avp1, cvp1, Avp2, cvp2, rfl, -⟩ := h1.form
   have P_vp := Hd (show ZB V3 b_vp _ _ _ _ from ⟨p_vp⟩)
   have O_vq := Hd h2.in_
   obtain ⟨Avq1, cvq1, Avq2, cvq2, rfl, -⟩ := h2.form
   have P_vq := Hd (show ZB V3 b_vq _ _ _ _ from ⟨p_vq⟩)
   have P_x := Hd (P_x.out.below hV)
   have P_y := Hd (P_y.out.below hV)
   have PR := Hd (PR.out.below hV)
   have HB := Hd (Zb HB.out hV)
   clear hV hK h1 h2 p_vp p_vq hb_vp hb_vq
   go_wp2_with fail
   refine Zc [.val (.pointer (some ⟨w.heap.size, 0, none⟩)) [], .val (.agg #[.bool (decide (n < 0)), .slice Ax1 (Za n.natAbs).length cx1, .bool (decide (d < 0)), .slice Ax2 (Za d.natAbs).length cx2]) [], .val (.pointer (some ⟨w.heap.size, 4, none⟩)) [], .val (.agg #[.bool (decide (m < 0)), .slice Ax3 (Za m.natAbs).length cx3, .bool (decide (f < 0)), .slice Ax4 (Za f.natAbs).length cx4]) [], .any false (fun u V => Zk V w.heap.size u a1 a2) [], .val (.pointer (some ⟨w.heap.size + 1, 0, none⟩)) [], .val (.agg #[.bool (decide (p < 0)), .slice Ay1 (Za p.natAbs).length cy1, .bool (decide (q < 0)), .slice Ay2 (Za q.natAbs).length cy2]) [], .val (.pointer (some ⟨w.heap.size + 1, 4, none⟩)) [], .val (.agg #[.bool (decide (r < 0)), .slice Ay3 (Za r.natAbs).length cy3, .bool (decide (s < 0)), .slice Ay4 (Za s.natAbs).length cy4]) [], .any false (fun u V => Zk V w.heap.size u b1 b2) [], .any false (fun u V => Zk V w.heap.size u r1 r2) [4, 9], .new 26 4, .put 26 4 11 10 []] V3.heap.size V3 [26] Yb _ Zd (Nat.le_refl _) (Below.refl _ _) (Zr.refl _ _ _) rfl ?_ ?_ ?_ ?_ ?_ ?_ ?_ ?_ rfl (by simp [ZI]) ?_ ?_ ?_ ?_
   iterate 8 kernel_rfl
   . simp only [Zq, and_true]
     exact ⟨fun u V V' h k => h.kept k (by decide), fun u V V' h k => h.kept k (by decide), fun u V V' h k => h.kept k (by decide)⟩
   . simp only [ZK]
   . simp (maxSteps := 4000000) [Zv, Z6, Ze, Zs, Zg]
     repeat' (first | apply And.intro | (intro (u : Value)) | (intro (u : Nat)))
     all_goals try exact ⟨_, _, _, rfl, rfl, rfl, rfl, Yq⟩
     all_goals try exact allocFracG rfl
     all_goals first
     | (intro V hV hK
        have hs_x := P_x.out.blk.lt
        have hs_y := P_y.out.blk.lt
        have qx : ZF V (w.heap.size) _ _ _ _ _ _ _ _ _ := ⟨P_x.out.blk.below hV (by omega)⟩
        obtain ⟨-, x0, x1, x2, x3, x4, x5, x6, x7⟩ := qx.facts
        have qy : ZF V (w.heap.size + 1) _ _ _ _ _ _ _ _ _ := ⟨P_y.out.blk.below hV (by omega)⟩
        obtain ⟨-, y0, y1, y2, y3, y4, y5, y6, y7⟩ := qy.facts
        have qvp := P_vp.out.below hV
        obtain ⟨-, a_vp0, a_vp1, a_vp2, a_vp3, -, -, -, -⟩ := qvp.facts
        have o_vp := Hd (O_vp.out.below hV)
        have qvq := P_vq.out.below hV
        obtain ⟨-, a_vq0, a_vq1, a_vq2, a_vq3, -, -, -, -⟩ := qvq.facts
        have o_vq := Hd (O_vq.out.below hV)
        have hvb := HB.out.trans (hV.mono (by omega))
        have hvs := hvb.size
        have g_x := Hd (G_x.out.below hvb)
        have g_y := Hd (G_y.out.below hvb)
        clear hV hK qx qy qvp qvq
        go_simp
        first
        | exact Below.refl _ _
        | ((with_reducible refine (H5.out V _ _ g_x.out.re g_x.out.im).mono ?_); rintro _ _ ⟨_, rfl, x, y⟩; exact ⟨x.base hvs, y⟩)
        | ((with_reducible refine (H6.out V _ _ g_y.out.re g_y.out.im).mono ?_); rintro _ _ ⟨_, rfl, x, y⟩; exact ⟨x.base hvs, y⟩))
     | (intro V hV hK h1 h2
        have hs_x := P_x.out.blk.lt
        have hs_y := P_y.out.blk.lt
        have qx : ZF V (w.heap.size) _ _ _ _ _ _ _ _ _ := ⟨P_x.out.blk.below hV (by omega)⟩
        obtain ⟨-, x0, x1, x2, x3, x4, x5, x6, x7⟩ := qx.facts
        have qy : ZF V (w.heap.size + 1) _ _ _ _ _ _ _ _ _ := ⟨P_y.out.blk.below hV (by omega)⟩
        obtain ⟨-, y0, y1, y2, y3, y4, y5, y6, y7⟩ := qy.facts
        have qvp := P_vp.out.below hV
        obtain ⟨-, a_vp0, a_vp1, a_vp2, a_vp3, -, -, -, -⟩ := qvp.facts
        have o_vp := Hd (O_vp.out.below hV)
        have qvq := P_vq.out.below hV
        obtain ⟨-, a_vq0, a_vq1, a_vq2, a_vq3, -, -, -, -⟩ := qvq.facts
        have o_vq := Hd (O_vq.out.below hV)
        have hvb := HB.out.trans (hV.mono (by omega))
        have hvs := hvb.size
        have g_x := Hd (G_x.out.below hvb)
        have g_y := Hd (G_y.out.below hvb)
        clear hV hK qx qy qvp qvq
        go_simp
        ((with_reducible refine (H7.out V _ _ h1.at_ h2.at_).mono ?_); rintro _ _ ⟨_, rfl, x, y⟩; exact ⟨x.base hvs, y⟩))
     | exact fun _ _ _ (h : Zk _ _ _ _ _) => h.cells
     | exact fun _ _ _ (h : Zk _ _ _ _ _) _ => h.cells
   . simp [Z8, Zx, Ze, Zs, Zg]
     intro u1 u2 u3 b_vr hb_vr V4 hV hK h1 h2 h3 p_vr _ _ _
     have N_vr := Hd (show b_vr ≠ w.heap.size + 1 + 1 from by have := PR.out.blk.lt; omega)
     have O_vr := Hd h3.in_
     obtain ⟨Avr1, cvr1, Avr2, cvr2, rfl, -⟩ := h3.form
     have P_vr := Hd (show ZB V4 b_vr _ _ _ _ from ⟨p_vr⟩)
     have P_x := Hd (P_x.out.below hV)
     have P_y := Hd (P_y.out.below hV)
     have P_vp := Hd (P_vp.out.below hV)
     have O_vp := Hd (O_vp.out.below hV)
     have P_vq := Hd (P_vq.out.below hV)
     have O_vq := Hd (O_vq.out.below hV)
     have PR := Hd (PR.out.below hV)
     have HB := Hd (Zb HB.out hV)
     clear hV hK h1 h2 h3 p_vr hb_vr
     have hsz := PR.out.blk.lt
     go_wp2_with fail
     refine Zc [.val (.agg #[.bool (decide (p1 < 0)), .slice Avp1 (Za p1.natAbs).length cvp1, .bool (decide (p2 < 0)), .slice Avp2 (Za p2.natAbs).length cvp2]) [], .val (.agg #[.bool (decide (q1 < 0)), .slice Avq1 (Za q1.natAbs).length cvq1, .bool (decide (q2 < 0)), .slice Avq2 (Za q2.natAbs).length cvq2]) [], .any true (fun u V => Zk V w.heap.size u N D) [], .val (.agg #[.bool (decide (r1 < 0)), .slice Avr1 (Za r1.natAbs).length cvr1, .bool (decide (r2 < 0)), .slice Avr2 (Za r2.natAbs).length cvr2]) [], .val (.agg #[.bool (decide (p1 < 0)), .slice Avp1 (Za p1.natAbs).length cvp1, .bool (decide (p2 < 0)), .slice Avp2 (Za p2.natAbs).length cvp2]) [], .val (.agg #[.bool (decide (q1 < 0)), .slice Avq1 (Za q1.natAbs).length cvq1, .bool (decide (q2 < 0)), .slice Avq2 (Za q2.natAbs).length cvq2]) [], .any false (fun u V => Zk V w.heap.size u j1 j2) [], .any true (fun u V => Zk V w.heap.size u M E) [6], .any false (fun u V => Zt V w.heap.size u N D M E) [2, 7, 1002007], .old (w.heap.size + 1 + 1) 28 #[.bool false, .slice none 0 0, .bool false, .slice none 0 0, .bool false, .slice none 0 0, .bool false, .slice none 0 0] 0 8 8 []] (w.heap.size + 1 + 1) V4 [28] Yb _ Zd (by omega) (Below.refl _ _) (Zr.refl _ _ _) rfl ?_ ?_ ?_ ?_ ?_ ?_ ?_ ?_ rfl (by simp [ZI]) ?_ ?_ ?_ ?_
     iterate 8 kernel_rfl
     . simp only [Zq, and_true]
       exact ⟨fun u V V' h k => h.kept k (by decide), fun u V V' h k => h.kept k (by decide), fun u V V' h k => h.kept k (by decide), fun u V V' h k => h.kept k (by decide)⟩
     . simp only [ZK, and_true]
       exact ⟨Nat.le_refl _, PR.out.blk.lt, PR.out.blk, by simp⟩
     . simp (maxSteps := 4000000) [Zv, Z6, Ze, Zs, Zg]
       repeat' (first | apply And.intro | (intro (u : Value)) | (intro (u : Nat)))
       all_goals try exact ⟨_, _, _, rfl, rfl, rfl, rfl, YD⟩
       all_goals first
       | (intro V hV hK
          have qx : ZF V (w.heap.size) _ _ _ _ _ _ _ _ _ := ⟨P_x.out.blk.below hV (by omega)⟩
          obtain ⟨-, x0, x1, x2, x3, x4, x5, x6, x7⟩ := qx.facts
          have qy : ZF V (w.heap.size + 1) _ _ _ _ _ _ _ _ _ := ⟨P_y.out.blk.below hV (by omega)⟩
          obtain ⟨-, y0, y1, y2, y3, y4, y5, y6, y7⟩ := qy.facts
          have qvp := ZB.mk (hK.blk P_vp.out.blk (by decide))
          obtain ⟨-, a_vp0, a_vp1, a_vp2, a_vp3, -, -, -, -⟩ := qvp.facts
          have o_vp := Hd (O_vp.out.kept hK (by decide))
          have qvq := ZB.mk (hK.blk P_vq.out.blk (by decide))
          obtain ⟨-, a_vq0, a_vq1, a_vq2, a_vq3, -, -, -, -⟩ := qvq.facts
          have o_vq := Hd (O_vq.out.kept hK (by decide))
          have qvr := ZB.mk (hK.blk P_vr.out.blk (by decide))
          obtain ⟨-, a_vr0, a_vr1, a_vr2, a_vr3, -, -, -, -⟩ := qvr.facts
          have o_vr := Hd (O_vr.out.kept hK (by decide))
          have hvb := HB.out.trans (hV.mono (by omega))
          have hvs := hvb.size
          have g_x := Hd (G_x.out.below hvb)
          have g_y := Hd (G_y.out.below hvb)
          clear hV hK qx qy qvp qvq qvr
          go_simp
          first
          | exact Below.refl _ _
          | ((with_reducible refine (H8.out V _ _ o_vp.out.at_ o_vq.out.at_).mono ?_); rintro _ _ ⟨_, rfl, x, y⟩; exact ⟨x.base hvs, y, x.mine⟩)
          | ((with_reducible refine (H9.out V _ _ o_vp.out.at_ o_vq.out.at_).mono ?_); rintro _ _ ⟨_, rfl, x, y⟩; exact ⟨x.base hvs, y⟩))
       | (intro V hV hK h1
          have qx : ZF V (w.heap.size) _ _ _ _ _ _ _ _ _ := ⟨P_x.out.blk.below hV (by omega)⟩
          obtain ⟨-, x0, x1, x2, x3, x4, x5, x6, x7⟩ := qx.facts
          have qy : ZF V (w.heap.size + 1) _ _ _ _ _ _ _ _ _ := ⟨P_y.out.blk.below hV (by omega)⟩
          obtain ⟨-, y0, y1, y2, y3, y4, y5, y6, y7⟩ := qy.facts
          have qvp := ZB.mk (hK.blk P_vp.out.blk (by decide))
          obtain ⟨-, a_vp0, a_vp1, a_vp2, a_vp3, -, -, -, -⟩ := qvp.facts
          have o_vp := Hd (O_vp.out.kept hK (by decide))
          have qvq := ZB.mk (hK.blk P_vq.out.blk (by decide))
          obtain ⟨-, a_vq0, a_vq1, a_vq2, a_vq3, -, -, -, -⟩ := qvq.facts
          have o_vq := Hd (O_vq.out.kept hK (by decide))
          have qvr := ZB.mk (hK.blk P_vr.out.blk (by decide))
          obtain ⟨-, a_vr0, a_vr1, a_vr2, a_vr3, -, -, -, -⟩ := qvr.facts
          have o_vr := Hd (O_vr.out.kept hK (by decide))
          have hvb := HB.out.trans (hV.mono (by omega))
          have hvs := hvb.size
          have g_x := Hd (G_x.out.below hvb)
          have g_y := Hd (G_y.out.below hvb)
          clear hV hK qx qy qvp qvq qvr
          go_simp
          ((with_reducible refine (H10.out V _ _ o_vr.out.at_ h1.at_).mono ?_); rintro _ _ ⟨_, rfl, x, y⟩; exact ⟨x.base hvs, y, x.mine⟩))
       | (intro V hV hK h1 h2 hq
          obtain ⟨A1, c1, B1, e1, rfl, -, -, -⟩ := h1.form
          obtain ⟨A2, c2, B2, e2, rfl, -, -, -⟩ := h2.form
          clear hV hK
          go_simp
          exact ⟨⟨_, _, _, _, _, _, _, _, rfl, h1, h2, hq⟩, Below.refl _ _⟩)
       | exact fun _ _ _ (h : Zt _ _ _ _ _ _ _) => h.cells
     . simp [Z8, Zx, Ze, Zs, Zg]
       intro u1 u2 u3 u4 V hV hK h1 h2 h3 h4 bq _ _ _
       have HF := Hd h4
       obtain ⟨A6, c6, A7, c7, A8, c8, A9, c9, rfl, -⟩ := h4.form
       simp [ZT, Value.cells] at bq
       have k0 := bq.cell 0
       have k1 := bq.cell 1
       have k2 := bq.cell 2
       have k3 := bq.cell 3
       have k4 := bq.cell 4
       have k5 := bq.cell 5
       have k6 := bq.cell 6
       have k7 := bq.cell 7
       simp at k0 k1 k2 k3 k4 k5 k6 k7
       have HB9 := Hd (HB.out.trans (hV.mono (by omega)))
       clear h1 h2 h3 h4 hV hK bq
       go_wp2_with fail
       exact bodyPost_ret (by simp [results, Tryz.results191, go_sem, k0, k1, k2, k3, k4, k5, k6, k7]) rfl ⟨_, rfl, HF.out, HB9.out⟩

theorem lz_i64 {n : Int} (h1 : -9223372036854775808 <= n) (h2 : n <= 9223372036854775807) : lz n <= 2 := by
 rw [lz_le]
 omega
theorem nought_ref (one : Int) (w : World)  (h1 : one = 1) :
  Calls Tryz.prog 205 #[] w (ZP w.heap.size w 0 one) := by
 have C := fun (V : World) => rof 1 one h1 (by decide) (by decide) V
 clear h1
 have H1 := Hd C
 clear C
 have b0 := ((Below.refl w.heap.size w).alloc (Nat.le_refl _) (.cells #[.bool false, .slice none 0 0, .bool false, .slice none 0 0] 26))
 have p0 := ZB.new w (.bool false) (.slice none 0 0) (.bool false) (.slice none 0 0)
 have P_r0 := Hd p0
 have HBW := Hd b0
 clear b0 p0 
 go_enter Tryz.func205, Tryz.ntmps205
 obtain ⟨W, E⟩ : ∃ W, W = (w.alloc (.cells #[.bool false, .slice none 0 0, .bool false, .slice none 0 0] 26)) := ⟨_, rfl⟩
 go_upto_region 1 with fail
 rw [<- E] at P_r0 HBW ⊢
 clear E
 go_wp2_with fail
 refine (H1.out W).mono ?_
 rintro e x1 ⟨v, rfl, hI, hb⟩
 have hIb := hI.base HBW.out.size
 obtain ⟨A1, c1, rfl, -⟩ := hI.raw
 have P_r0 := Hd (P_r0.out.below hb)
 have HBW := Hd (Zb HBW.out hb)
 clear hb
 have HI := Hd hIb
 clear hI hIb
 obtain ⟨l_r0, a_r0, b_r0, f_r0, g_r0⟩ := P_r0.out.facts
 have HQ := Hd (P_r0.out.store (.bool false) (.slice none 0 0) (.bool (decide (one < 0))) (.slice A1 (Za one.natAbs).length c1))
 have HB := Hd (below4 HBW.out (show w.heap.size <= w.heap.size by omega) (.bool false) (.slice none 0 0) (.bool (decide (one < 0))) (.slice A1 (Za one.natAbs).length c1))
 have HF9 := Hd (show Zk _ w.heap.size _ 0 one from (Zk.mk ⟨none, 0, A1, c1, rfl, Zf.nought _ _, HI.out, fun g hg => by cases hg⟩ : Zk x1 w.heap.size _ 0 one).quad P_r0.out (.bool false) (.slice none 0 0) (.bool (decide (one < 0))) (.slice A1 (Za one.natAbs).length c1))
 go_wp2_with fail
 obtain ⟨_, k0, k1, k2, k3, _, _, _, _⟩ := HQ.out.facts
 exact bodyPost_ret (by simp [results, Tryz.results205, go_sem, k0, k1, k2, k3]) rfl ⟨.agg #[.bool false, .slice none 0 0, .bool (decide (one < 0)), .slice A1 (Za one.natAbs).length c1], rfl, HF9.out, HB.out⟩

theorem small_own {n d : Int} (hn1 : -9223372036854775808 <= n) (hn2 : n <= 9223372036854775807) (hd1 : -9223372036854775808 <= d) (hd2 : d <= 9223372036854775807) (hd0 : d ≠ 0) (w : World)   :
  Calls Tryz.prog 156 #[.int .i64 n, .int .i64 d] w (ZP w.heap.size w (YF n d) (YB n d)) := by
 have D1 := fun (V : World) => eof n n rfl hn1 hn2 V
 have D2 := fun (V : World) => eof d d rfl hd1 hd2 V
 have l1 : lz n <= 400000000 := Nat.le_trans (lz_i64 hn1 hn2) (by decide)
 have l2 : lz d <= 400000000 := Nat.le_trans (lz_i64 hd1 hd2) (by decide)
 obtain ⟨N, hN⟩ : ∃ k : Int, k = YF n d := ⟨_, rfl⟩
 obtain ⟨D, hD⟩ : ∃ k : Int, k = YB n d := ⟨_, rfl⟩
 rw [<- hN, <- hD]
 have HLOW := Hd (And.intro hN hD)
 have H1 := Hd D1
 have H2 := Hd D2
 have H0 := Hd hd0
 clear hn1 hn2 hd1 hd2 hd0 D1 D2 hN hD
 go_enter Tryz.func156, Tryz.ntmps156
 go_upto_region 1 with fail
 refine Y7 (P := fun W => Code.wp _ _ _ _ W) fun W p0 b0 => ?_
 have PR := Hd (ZB.mk p0)
 have HB := Hd b0
 clear b0 p0
 go_wp2_with fail
 refine (H1.out W).mono ?_
 rintro e wx1 ⟨v, rfl, hI, hb⟩
 obtain ⟨A6, c6, rfl, -⟩ := hI.raw
 have I1 := Hd (hI.base HB.out.size)
 have M1 := Hd (show ∀ g, (Value.slice A6 (Za n.natAbs).length c6).ownBlock = some g -> g < wx1.heap.size from fun g hg => (hI.mine g hg).2)
 clear hI
 have PR := Hd (PR.out.below hb)
 have HB := Hd (Zb HB.out hb)
 clear hb
 go_wp2_with fail
 refine (H2.out wx1).mono ?_
 rintro e wx2 ⟨v, rfl, hI, hb⟩
 obtain ⟨A7, c7, rfl, -⟩ := hI.raw
 have I2 := Hd (hI.base HB.out.size)
 have HQ2 := Hd (show ∀ g, (Value.slice A6 (Za n.natAbs).length c6).ownBlock = some g -> (Value.slice A7 (Za d.natAbs).length c7).ownBlock ≠ some g from fun g hg hg2 => by have a := M1.out g hg; have b := (hI.mine g hg2).1; omega)
 clear hI
 have PR := Hd (PR.out.below hb)
 have I1 := Hd (I1.out.below hb)
 have HB := Hd (Zb HB.out hb)
 clear hb
 go_wp2_with fail
 refine (show Calls Tryz.prog 211 _ _ (ZP w.heap.size wx2 N D) from by rw [HLOW.out.1, HLOW.out.2]; exact efresh n d A6 A7 c6 c7 w.heap.size wx2 I1.out I2.out HQ2.out HB.out.size l1 l2 H0.out).mono ?_
 rintro e w9 ⟨v, rfl, hI, hb⟩
 have HI := Hd hI
 obtain ⟨A6, c6, A7, c7, rfl, -⟩ := hI.form
 have pr := PR.out.below hb
 have hb9 := Zb HB.out hb
 obtain ⟨l_r, r0, r1, r2, r3, f0, f1, f2, f3⟩ := pr.facts
 have HQ := Hd (pr.store (.bool (decide (N < 0))) (.slice A6 (Za N.natAbs).length c6) (.bool (decide (D < 0))) (.slice A7 (Za D.natAbs).length c7))
 have HB9 := Hd (below4 hb9 (show w.heap.size <= w.heap.size by omega) (.bool (decide (N < 0))) (.slice A6 (Za N.natAbs).length c6) (.bool (decide (D < 0))) (.slice A7 (Za D.natAbs).length c7))
 have HF := Hd (HI.out.quad pr (.bool (decide (N < 0))) (.slice A6 (Za N.natAbs).length c6) (.bool (decide (D < 0))) (.slice A7 (Za D.natAbs).length c7))
 clear hb hb9 pr hI
 go_wp2_with fail
 obtain ⟨_, k0, k1, k2, k3, _, _, _, _⟩ := HQ.out.facts
 exact bodyPost_ret (by simp [results, Tryz.results156, go_sem, k0, k1, k2, k3]) rfl ⟨_, rfl, HF.out, HB9.out⟩

theorem one_own {N D : Int} (hN : N = 1) (hD : D = 1) (w : World)   :
  Calls Tryz.prog 200 #[] w (ZP w.heap.size w N D) := by
 have D1 := fun (V : World) => small_own (n := 1) (d := 1) (by decide) (by decide) (by decide) (by decide) (by decide) V
 rw [show YF 1 1 = 1 by decide +kernel, show YB 1 1 = 1 by decide +kernel] at D1
 have D1 : ∀ V : World, Calls Tryz.prog 156 #[.int .i64 1, .int .i64 1] V (ZP V.heap.size V N D) := by rw [hN, hD]; exact D1
 have H1 := Hd D1
 clear D1 hN hD
 go_enter Tryz.func200, Tryz.ntmps200
 go_upto_region 1 with fail
 refine Y7 (P := fun W => Code.wp _ _ _ _ W) fun W p0 b0 => ?_
 have PR := Hd (ZB.mk p0)
 have HB := Hd b0
 clear b0 p0
 go_wp2_with fail
 refine (H1.out W).mono ?_
 rintro e w9 ⟨v, rfl, hI, hb⟩
 have HI := Hd hI
 obtain ⟨A6, c6, A7, c7, rfl, -⟩ := hI.form
 have pr := PR.out.below hb
 have hb9 := Zb HB.out hb
 obtain ⟨l_r, r0, r1, r2, r3, f0, f1, f2, f3⟩ := pr.facts
 have HQ := Hd (pr.store (.bool (decide (N < 0))) (.slice A6 (Za N.natAbs).length c6) (.bool (decide (D < 0))) (.slice A7 (Za D.natAbs).length c7))
 have HB9 := Hd (below4 hb9 (show w.heap.size <= w.heap.size by omega) (.bool (decide (N < 0))) (.slice A6 (Za N.natAbs).length c6) (.bool (decide (D < 0))) (.slice A7 (Za D.natAbs).length c7))
 have HF := Hd (HI.out.quad pr (.bool (decide (N < 0))) (.slice A6 (Za N.natAbs).length c6) (.bool (decide (D < 0))) (.slice A7 (Za D.natAbs).length c7))
 clear hb hb9 pr hI
 go_wp2_with fail
 obtain ⟨_, k0, k1, k2, k3, _, _, _, _⟩ := HQ.out.facts
 exact bodyPost_ret (by simp [results, Tryz.results200, go_sem, k0, k1, k2, k3]) rfl ⟨_, rfl, HF.out.base HB.out.size, HB9.out⟩

theorem turned_own {n d z : Int} (hn : lz n <= 400000000) (hd : lz d <= 400000000) (hz : z = -n) (w : World) (v_x : Value) (g_x : Yc w v_x n d)  :
   Calls Tryz.prog 202 #[v_x] w (ZP w.heap.size w z d) := by
 obtain ⟨Ax1, cx1, Ax2, cx2, rfl, -⟩ := g_x.form
 obtain ⟨n0, hn0⟩ : ∃ k : Int, k = 0 := ⟨_, rfl⟩
 have D3 := fun (V : World) => eof 0 n0 hn0 (by decide) (by decide) V
 have HD := Hd (show d = d + n0 from by omega)
 have l0 : lz n0 <= 400000000 := by rw [hn0]; decide
 have H3 := Hd D3
 have HZ := Hd hz
 clear D3 hz hn0
 have G_x := Hd g_x
 clear g_x
 go_enter Tryz.func202, Tryz.ntmps202
 go_upto_region 1 with fail
 refine XG (P := fun W => Code.wp _ _ _ _ W) fun W p0 p1 b0 => ?_
 have P_x := Hd (ZB.mk p0)
 have PR := Hd (ZB.mk p1)
 have HB := Hd b0
 clear b0 p0 p1
 have hsz := PR.out.blk.lt
 go_wp2_with fail
 refine Zc [.val (.pointer (some ⟨w.heap.size, 0, none⟩)) [], .val (.agg #[.bool (decide (n < 0)), .slice Ax1 (Za n.natAbs).length cx1]) [], .any true (fun u V => Zf V w.heap.size u z) [], .val (.pointer (some ⟨w.heap.size, 2, none⟩)) [], .val (.agg #[.bool (decide (d < 0)), .slice Ax2 (Za d.natAbs).length cx2]) [], .any false (fun u V => Zf V 0 u n0) [], .any true (fun u V => Zf V w.heap.size u d) [5], .any false (fun u V => Zk V w.heap.size u z d) [2, 6, 1002006], .old (w.heap.size + 1) 26 #[.bool false, .slice none 0 0, .bool false, .slice none 0 0] 0 4 7 []] (w.heap.size + 1) W [26] YT _ Zd (by omega) (Below.refl _ _) (Zr.refl _ _ _) rfl ?_ ?_ ?_ ?_ ?_ ?_ ?_ ?_ rfl (by simp [ZI]) ?_ ?_ ?_ ?_
 iterate 8 kernel_rfl
 . simp only [Zq, and_true]
   exact ⟨fun u V V' h k => h.kept k (by decide), fun u V V' h k => h.kept k (by decide), fun u V V' h k => h.kept k (by decide), fun u V V' h k => h.kept k (by decide)⟩
 . simp only [ZK, and_true]
   exact ⟨Nat.le_refl _, PR.out.blk.lt, PR.out.blk, by simp⟩
 . simp (maxSteps := 4000000) [Zv, Z6, Ze, Zs, Zg]
   repeat' (first | apply And.intro | (intro (u : Value)) | (intro (u : Nat)))
   all_goals try exact ⟨_, _, _, rfl, rfl, rfl, rfl, Yq⟩
   all_goals first
   | (intro V hV hK
      have qx : ZB V (w.heap.size) _ _ _ _ := ⟨P_x.out.blk.below hV (by omega)⟩
      obtain ⟨-, x0, x1, x2, x3, -, -, -, -⟩ := qx.facts
      have hvb := HB.out.trans (hV.mono (by omega))
      have hvs := hvb.size
      have r1 := Hd (G_x.out.below hvb).raws.1
      clear hV hK qx
      go_simp
      first
      | exact Below.refl _ _
      | ((with_reducible refine (eturned n z Ax1 cx1 V r1.out hn HZ.out).mono ?_); rintro _ _ ⟨_, rfl, x, y⟩; exact ⟨x.base hvs, y, x.mine⟩)
      | ((with_reducible refine (H3.out V).mono ?_); rintro _ _ ⟨_, rfl, x, y⟩; exact ⟨x.base (Nat.zero_le _), y⟩))
   | (intro V hV hK h1 h2 hq
      obtain ⟨A6, c6, rfl, -⟩ := h1.raw
      obtain ⟨A7, c7, rfl, -⟩ := h2.raw
      clear hV hK
      go_simp
      exact ⟨⟨_, _, _, _, rfl, h1, h2, hq⟩, Below.refl _ _⟩)
   | (intro V hV hK h1
      obtain ⟨A6, c6, rfl, i6⟩ := h1.raw
      have hvb := HB.out.trans (hV.mono (by omega))
      have hvs := hvb.size
      have r2 := Hd (G_x.out.below hvb).raws.2
      clear hV hK
      go_simp
      (with_reducible refine (eplus d n0 d Ax2 A6 cx2 c6 V r2.out i6 (by omega) (by omega) HD.out).mono ?_); rintro _ _ ⟨_, rfl, x, y⟩; exact ⟨x.base hvs, y, x.mine⟩)
   | exact fun _ _ _ (h : Zk _ _ _ _ _) => h.cells
 . simp [Z8, Zx, Ze, Zs, Zg]
   intro u1 u2 u3 u4 V hV hK h1 h2 h3 h4 bq _ _ _
   have HF := Hd h4
   obtain ⟨A6, c6, A7, c7, rfl, -⟩ := h4.form
   simp [ZT, Value.cells] at bq
   have k0 := bq.cell 0
   have k1 := bq.cell 1
   have k2 := bq.cell 2
   have k3 := bq.cell 3
   simp at k0 k1 k2 k3
   have HB9 := Hd (HB.out.trans (hV.mono (by omega)))
   clear h1 h2 h3 h4 hV hK bq
   go_wp2_with fail
   exact bodyPost_ret (by simp [results, Tryz.results202, go_sem, k0, k1, k2, k3]) rfl ⟨_, rfl, HF.out, HB9.out⟩

theorem sgn_r {a : Rat} {n d : Int} (_ha : Is a n d) : SgnF 138 n d n.sign := by
 intro V v1 g1
 obtain ⟨A, c, B, e0, rfl, a1, -⟩ := g1.form
 exact ratio_Sign n n.sign d A B c e0 V a1 rfl
theorem YM (n : Int) (b : Bool) (h : decide (n = 0) = b) : (n.sign == 0) = b := by
 rw [<- h]
 by_cases hn : n = 0
 . subst hn; rfl
 . rw [decide_eq_false hn]
   exact beq_eq_false_iff_ne.2 (fun e => hn (Int.sign_eq_zero_iff_zero.1 e))
theorem sq_nonneg (a : Rat) : 0 <= a * a := by
 rcases Rat.le_total (a := 0) (b := a) with h | h
 . exact Rat.mul_nonneg h h
 . have h2 : 0 <= -a := by grind
   have := Rat.mul_nonneg h2 h2
   rw [show -a * -a = a * a by grind] at this
   exact this
theorem sq_sum {a b : Rat} (h : a * a + b * b = 0) : a = 0 /\ b = 0 := by
 have h1 := sq_nonneg a
 have h2 := sq_nonneg b
 have e1 : a * a = 0 := by grind
 have e2 : b * b = 0 := by grind
 exact ⟨(Rat.mul_eq_zero.1 e1).elim id id, (Rat.mul_eq_zero.1 e2).elim id id⟩
theorem turned_r {a : Rat} {n d : Int} (ha : Is a n d) (sa : Sz a 100000000) : OpR1 202 n d (-n) d := by
 have l := sa.lz ha
 exact turned_own (by omega) (by omega) rfl
theorem one_r : OpR0 200 1 1 := one_own rfl rfl
theorem copy_r {a : Rat} {n d : Int} (ha : Is a n d) (sa : Sz a 100000000) : OpR1 201 n d n d := by
 intro V v1 g1
 obtain ⟨A, c, B, e0, rfl, a1, a2⟩ := g1.form
 have l := sa.lz ha
 exact ratio_Copy n d A B c e0 V a1 a2 (by omega) (by omega)
section
variable {a b c e : Rat} {n d m f p q r s N D M E : Int}
theorem scaled_g (ha : Is a n d) (hb : Is b m f) (hc : Is c p q) (sa : Sz a 100000000) (sb : Sz b 100000000) (sc : Sz c 100000000) (h1 : Is (a * c) N D) (h2 : Is (b * c) M E) : OpGF 199 n d m f p q N D M E := by
 exact argand_Scaled (times_r ha hc h1 sa sc) (times_r hb hc h2 sb sc)
theorem plus_g (ha : Is a n d) (hb : Is b m f) (hc : Is c p q) (he : Is e r s) (sa : Sz a 100000000) (sb : Sz b 100000000) (sc : Sz c 100000000) (se : Sz e 100000000) (h1 : Is (a + c) N D) (h2 : Is (b + e) M E) : OpG 192 n d m f p q r s N D M E := by
 exact argand_Plus (plus_r ha hc h1 sa sc) (plus_r hb he h2 sb se)
theorem minus_g (ha : Is a n d) (hb : Is b m f) (hc : Is c p q) (he : Is e r s) (sa : Sz a 100000000) (sb : Sz b 100000000) (sc : Sz c 100000000) (se : Sz e 100000000) (h1 : Is (a - c) N D) (h2 : Is (b - e) M E) : OpG 115 n d m f p q r s N D M E := by
 exact argand_Minus (minus_r ha hc h1 sa sc) (minus_r hb he h2 sb se)
theorem times_g (ha : Is a n d) (hb : Is b m f) (hc : Is c p q) (he : Is e r s) (sa : Sz a 1000000) (sb : Sz b 1000000) (sc : Sz c 1000000) (se : Sz e 1000000) (h1 : Is (a * c - b * e) N D) (h2 : Is (a * e + b * c) M E) : OpG 191 n d m f p q r s N D M E := by
 have up : ∀ {q : Rat} {k : Nat}, Sz q k -> k <= 100000000 -> Sz q 100000000 := fun h k => h.mono k
 by_cases hm : m = 0
 . have hb0 : b = 0 := hb.nought.1 hm
   subst hb0
   have e1 : Is (c * a) N D := by rw [show c * a = a * c - 0 * e by grind]; exact h1
   have e2 : Is (e * a) M E := by rw [show e * a = a * e + 0 * c by grind]; exact h2
   exact argand_Times_a (sgn_r hb) (YM m true (decide_eq_true hm)) (scaled_g hc he ha (up sc (by omega)) (up se (by omega)) (up sa (by omega)) e1 e2)
 . by_cases hr : r = 0
   . have he0 : e = 0 := he.nought.1 hr
     subst he0
     have e1 : Is (a * c) N D := by rw [show a * c = a * c - b * 0 by grind]; exact h1
     have e2 : Is (b * c) M E := by rw [show b * c = a * 0 + b * c by grind]; exact h2
     exact argand_Times_b (sgn_r hb) (YM m false (decide_eq_false hm)) (sgn_r he) (YM r true (decide_eq_true hr)) (scaled_g ha hb hc (up sa (by omega)) (up sb (by omega)) (up sc (by omega)) e1 e2)
   . have e2 : Is ((a + b) * (c + e) - (a * c + b * e)) M E := by rw [show (a + b) * (c + e) - (a * c + b * e) = a * e + b * c by grind]; exact h2
     have sp := YL sa sc
     have sq := YL sb se
     have s1 := sz_add sa sb
     have s2 := sz_add sc se
     have s3 := YL s1 s2
     have s4 := sz_add sp sq
     exact argand_Times_c (sgn_r hb) (YM m false (decide_eq_false hm)) (sgn_r he) (YM r false (decide_eq_false hr))
      (times_r ha hc (Is.of _) (up sa (by omega)) (up sc (by omega))) (times_r hb he (Is.of _) (up sb (by omega)) (up se (by omega))) (plus_r ha hb (Is.of _) (up sa (by omega)) (up sb (by omega))) (plus_r hc he (Is.of _) (up sc (by omega)) (up se (by omega))) (times_r (Is.of _) (Is.of _) (Is.of _) (up s1 (by omega)) (up s2 (by omega)))
      (minus_r (Is.of _) (Is.of _) h1 (up sp (by omega)) (up sq (by omega))) (plus_r (Is.of _) (Is.of _) (Is.of _) (up sp (by omega)) (up sq (by omega))) (minus_r (Is.of _) (Is.of _) e2 (up s3 (by omega)) (up s4 (by omega)))
theorem norm_g (ha : Is a n d) (hb : Is b m f) (sa : Sz a 10000000) (sb : Sz b 10000000) (h1 : Is (a * a + b * b) N D) : OpN 122 n d m f N D := by
 have sp := YL sa sa
 have sq := YL sb sb
 exact argand_Norm (times_r ha ha (Is.of _) (sa.mono (by omega)) (sa.mono (by omega))) (times_r hb hb (Is.of _) (sb.mono (by omega)) (sb.mono (by omega))) (plus_r (Is.of _) (Is.of _) h1 (sp.mono (by omega)) (sq.mono (by omega)))
theorem conj_g (ha : Is a n d) (hb : Is b m f) (sa : Sz a 100000000) (sb : Sz b 100000000) : OpG1 121 n d m f n d (-m) f := by
 exact argand_Conj (copy_r ha sa) (turned_r hb sb)
theorem over_g (ha : Is a n d) (hb : Is b m f) (hc : Is c p q) (he : Is e r s) (sa : Sz a 100000) (sb : Sz b 100000) (sc : Sz c 100000) (se : Sz e 100000) (h0 : ¬ (c = 0 /\ e = 0)) (h1 : Is ((a * c + b * e) / (c * c + e * e)) N D) (h2 : Is ((b * c - a * e) / (c * c + e * e)) M E) : OpG 117 n d m f p q r s N D M E := by
 have hn : c * c + e * e ≠ 0 := fun h => h0 (sq_sum h)
 have up : ∀ {q : Rat} {k l : Nat}, Sz q k -> k <= l -> Sz q l := fun h k => h.mono k
 have se2 := sz_neg se
 have e1 : Is ((a * c + b * e) * (1 / (c * c + e * e))) N D := by rw [show (a * c + b * e) * (1 / (c * c + e * e)) = (a * c + b * e) / (c * c + e * e) by grind]; exact h1
 have e2 : Is ((b * c - a * e) * (1 / (c * c + e * e))) M E := by rw [show (b * c - a * e) * (1 / (c * c + e * e)) = (b * c - a * e) / (c * c + e * e) by grind]; exact h2
 have t1 : Is (a * c - b * -e) (a * c + b * e).num (a * c + b * e).den := by rw [show a * c - b * -e = a * c + b * e by grind]; exact Is.of _
 have t2 : Is (a * -e + b * c) (b * c - a * e).num (b * c - a * e).den := by rw [show a * -e + b * c = b * c - a * e by grind]; exact Is.of _
 have s1 := sz_add (YL sa sc) (YL sb se)
 have s2 := sz_sub (YL sb sc) (YL sa se)
 have s3 := sz_add (YL sc sc) (YL se se)
 have s4 := sz_quo sz_one s3 hn
 exact argand_Over (conj_g hc he (up sc (by omega)) (up se (by omega)))
  (times_g ha hb hc (is_neg he) (up sa (by omega)) (up sb (by omega)) (up sc (by omega)) (up se2 (by omega)) t1 t2) one_r (norm_g hc he (up sc (by omega)) (up se (by omega)) (Is.of _)) (over_r is_unit (Is.of _) (Is.of _) (up sz_one (by omega)) (up s3 (by omega)) hn)
  (scaled_g (Is.of _) (Is.of _) (Is.of _) (up s1 (by omega)) (up s2 (by omega)) (up s4 (by omega)) e1 e2)
end
end Go.Proofs.YthlehkjcfhnplaaGreatDoor
