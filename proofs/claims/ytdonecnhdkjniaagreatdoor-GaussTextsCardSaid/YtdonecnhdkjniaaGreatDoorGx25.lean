/- Several texts in one: FClos, FRefMake, FRefDo, Longs, Argand. -/
import Derived.Test.YtdonecnhdkjniaaGreatDoorGx24
set_option maxRecDepth 100000
set_option maxHeartbeats 8000000
namespace Go.Proofs.YtdonecnhdkjniaaGreatDoor
open Go.RowKit

structure TupF (base : Nat) (n d k : Int) (u : Value) (V : World) : Prop where
 form : ∃ v, u = .tuple #[v, .int .i64 k] /\ Zl V base v n d
structure BlkH (w : World) (g : Nat) (t : TypeId) (cs : Array Value) : Prop where
 blk : ZJ w g t cs

def RetFrac2 (w : World) (n d k : Int) (e : Ending) (w' : World) : Prop := ∃ v, e = .returned (.tuple #[v, .int .i64 k]) /\ Yq w' v n d /\ Below w.heap.size w w'


def XG.long (q : XG) : Bool := decide (2048 < q.n) || decide (2048 < q.m)
theorem long_a {q : XG} {b1 : Bool} {A1 : Option Addr} {n c9 : Nat} {b2 : Bool} {B1 : Option Addr} {m e9 : Nat} (h : ⟨b1, A1, n, c9, b2, B1, m, e9⟩ = q) : q.long = (decide (2048 < n) || decide (2048 < m)) := by rw [<- h]; rfl

theorem ratio_LongL (l : List XG) (A : Option Addr) (c : Nat) (hl : l.length <= 9223372036854775807) (hs : ∀ q ∈ l, q.n <= 9223372036854775807 /\ q.m <= 9223372036854775807) (w : World) (h : ZD w w.heap.size 4 A l.length (Ju l)) :
   Calls Tryz.prog 183 #[.slice A l.length c] w fun e w' => e = .returned (.bool (l.any XG.long)) /\ Below w.heap.size w w' := by
 have HR := Hd h
 have HS := Hd hs
 clear h hs
 have H0 := Hd (by intro j hj; omega : ∀ j (_ : j < 0), (h : j < l.length) -> l[j].long = false)
 go_enter Tryz.func183, Tryz.ntmps183
 go_wp2_with fail
 go_loopw [7] (fun s wr => ∃ i : Nat, s = .int .i64 i /\ i <= l.length /\ Hid (∀ j (_ : j < i), (h : j < l.length) -> l[j].long = false) /\ Below w.heap.size w wr) (fun s _ => l.length - (intOf s).toNat)
 case atStart => exact ⟨0, rfl, Nat.zero_le _, H0, Below.refl _ _⟩
 case round =>
   obtain ⟨i, rfl, hi, HN, hb⟩ := hrel
   clear H0
   by_cases hlt : i < l.length
   . have a0 : (0 : Int) <= (i : Int) := by omega
     have a1 : (i : Int) < (l.length : Int) := by omega
     obtain ⟨e0, e1, e2, e3⟩ := JO l i hlt
     obtain ⟨ad, rfl, hbl, c0, c1, c2, c3⟩ := (HR.out.below hb).row4 hlt e0 e1 e2 e3
     obtain ⟨h1, h2⟩ := HS.out _ (List.getElem_mem hlt)
     have HB := Hd hb
     have HE := Hd (And.intro e0 (And.intro e1 (And.intro e2 e3)))
     clear e0 e1 e2 e3 hbl hb
     obtain ⟨q, hq⟩ : ∃ q, q = l[i] := ⟨_, rfl⟩
     have HQ := Hd hq
     rw [<- hq] at c0 c1 c2 c3 h1 h2
     clear hq
     obtain ⟨b1, A1, n, c9, b2, E1, m, e9⟩ := q
     simp only at c0 c1 c2 c3 h1 h2
     have C1 := fun (V : World) (g' : Nat) (hg : V.heap.size = g') => flong_one b1 A1 n c9 h1 V g' hg
     have C2 := fun (V : World) (g' : Nat) (hg : V.heap.size = g') => flong_one b2 E1 m e9 h2 V g' hg
     have HL := Hd (long_a HQ.out)
     clear h1 h2
     by_cases hn : 2048 < n
     . rw [decide_eq_true hn] at C1
       have HL := Hd (show l[i].long = true from by rw [HL.out, decide_eq_true hn]; rfl)
       have H1 := Hd C1
       clear C1 C2 hn
       go_wp2_with (go_at_call 223; with_reducible refine (H1.out _ _ (by simp)).mono ?_; rintro e w1 ⟨rfl, hb1⟩; have q4 := ((Zz.new wr (.bool b1) (.slice A1 n c9) (.bool b2) (.slice E1 m e9)).alloc (.cells #[.bool b1, .slice A1 n c9] 24)).below hb1; have B1 := Zb ((HB.out.alloc HB.out.size _).alloc (by simp; have := HB.out.size; omega) _) hb1; obtain ⟨l4, y0, y1, y2, y3, -, -, -, -⟩ := q4.facts)
       go_ret
       have e : l.any XG.long = true := List.any_eq_true.2 ⟨l[i], List.getElem_mem hlt, HL.out⟩
       exact ⟨by rw [e]; rfl, B1⟩
     . rw [decide_eq_false hn] at C1
       have H1 := Hd C1
       by_cases hm : 2048 < m
       . rw [decide_eq_true hm] at C2
         have HL := Hd (show l[i].long = true from by rw [HL.out, decide_eq_true hm, Bool.or_true])
         have H2 := Hd C2
         clear C1 C2 hn hm
         go_wp2_with (first | (go_at_call 223; with_reducible refine (H1.out _ _ (by simp)).mono ?_; rintro e w1 ⟨rfl, hb1⟩; have q4 := ((Zz.new wr (.bool b1) (.slice A1 n c9) (.bool b2) (.slice E1 m e9)).alloc (.cells #[.bool b1, .slice A1 n c9] 24)).below hb1; have B1 := Zb ((HB.out.alloc HB.out.size _).alloc (by simp; have := HB.out.size; omega) _) hb1; obtain ⟨l4, y0, y1, y2, y3, -, -, -, -⟩ := q4.facts) | (go_at_call 223; with_reducible refine (H2.out _ _ rfl).mono ?_; rintro e w2 ⟨rfl, hb2⟩; have B2 := Zb (B1.alloc B1.size _) hb2))
         go_ret
         have e : l.any XG.long = true := List.any_eq_true.2 ⟨l[i], List.getElem_mem hlt, HL.out⟩
         exact ⟨by rw [e]; rfl, B2⟩
       . rw [decide_eq_false hm] at C2
         have HL := Hd (show l[i].long = false from by rw [HL.out, decide_eq_false hn, decide_eq_false hm]; rfl)
         have H2 := Hd C2
         clear C1 C2 hn hm
         go_wp2_with (first | (go_at_call 223; with_reducible refine (H1.out _ _ (by simp)).mono ?_; rintro e w1 ⟨rfl, hb1⟩; have q4 := ((Zz.new wr (.bool b1) (.slice A1 n c9) (.bool b2) (.slice E1 m e9)).alloc (.cells #[.bool b1, .slice A1 n c9] 24)).below hb1; have B1 := Zb ((HB.out.alloc HB.out.size _).alloc (by simp; have := HB.out.size; omega) _) hb1; obtain ⟨l4, y0, y1, y2, y3, -, -, -, -⟩ := q4.facts) | (go_at_call 223; with_reducible refine (H2.out _ _ rfl).mono ?_; rintro e w2 ⟨rfl, hb2⟩; have B2 := Zb (B1.alloc B1.size _) hb2))
         go_roundw
         case rel =>
           refine ⟨i + 1, by go_num, hlt, Hd fun j hj h => ?_, B2⟩
           rcases (by omega : j < i ∨ j = i) with hj | rfl
           . exact HN.out j hj h
           . exact HL.out
         case measure => simp [intOf]; omega
   . have HB := Hd hb
     clear hb
     go_wp2_with fail
     go_ret
     have e : l.any XG.long = false := List.any_eq_false.2 fun x hx => by
       obtain ⟨j, hj, rfl⟩ := List.getElem_of_mem hx
       rw [HN.out j (by omega) hj]
       decide
     exact ⟨by rw [e]; rfl, HB.out⟩
theorem ref02_LongL (l : List XG) (A : Option Addr) (c : Nat) (hl : l.length <= 9223372036854775807) (hs : ∀ q ∈ l, q.n <= 9223372036854775807 /\ q.m <= 9223372036854775807) (w : World) (h : ZD w w.heap.size 4 A l.length (Ju l)) :
   Calls Tryz.prog 193 #[.slice A l.length c] w fun e w' => e = .returned (.bool (l.any XG.long)) /\ Below w.heap.size w w' := by
 have HR := Hd h
 have HS := Hd hs
 clear h hs
 have H0 := Hd (by intro j hj; omega : ∀ j (_ : j < 0), (h : j < l.length) -> l[j].long = false)
 go_enter Tryz.func193, Tryz.ntmps193
 go_wp2_with fail
 go_loopw [3] (fun s wr => ∃ i : Nat, s = .int .i64 i /\ i <= l.length /\ Hid (∀ j (_ : j < i), (h : j < l.length) -> l[j].long = false) /\ Below w.heap.size w wr) (fun s _ => l.length - (intOf s).toNat)
 case atStart => exact ⟨0, rfl, Nat.zero_le _, H0, Below.refl _ _⟩
 case round =>
   obtain ⟨i, rfl, hi, HN, hb⟩ := hrel
   clear H0
   by_cases hlt : i < l.length
   . have a0 : (0 : Int) <= (i : Int) := by omega
     have a1 : (i : Int) < (l.length : Int) := by omega
     obtain ⟨e0, e1, e2, e3⟩ := JO l i hlt
     obtain ⟨ad, rfl, hbl, c0, c1, c2, c3⟩ := (HR.out.below hb).row4 hlt e0 e1 e2 e3
     obtain ⟨h1, h2⟩ := HS.out _ (List.getElem_mem hlt)
     have HB := Hd hb
     have HE := Hd (And.intro e0 (And.intro e1 (And.intro e2 e3)))
     clear e0 e1 e2 e3 hb
     obtain ⟨q, hq⟩ : ∃ q, q = l[i] := ⟨_, rfl⟩
     have HQ := Hd hq
     rw [<- hq] at c0 c1 c2 c3 h1 h2
     clear hq
     obtain ⟨b1, A1, n, c9, b2, E1, m, e9⟩ := q
     simp only at c0 c1 c2 c3 h1 h2
     have C1 := fun (V : World) => ref_Long b1 A1 n c9 h1 V
     have C2 := fun (V : World) => ref_Long b2 E1 m e9 h2 V
     have HL := Hd (long_a HQ.out)
     clear h1 h2
     by_cases hn : 2048 < n
     . rw [decide_eq_true hn] at C1
       have HL := Hd (show l[i].long = true from by rw [HL.out, decide_eq_true hn]; rfl)
       have H1 := Hd C1
       clear C1 C2 hn
       go_wp2_with (go_at_call 234; with_reducible refine (H1.out _).mono ?_; rintro e w1 ⟨rfl, hb1⟩; have B1 := Zb HB.out hb1; obtain ⟨ad2, he2, hbl2, d0, d1, d2, d3⟩ := (HR.out.below B1).row4 hlt HE.out.1 HE.out.2.1 HE.out.2.2.1 HE.out.2.2.2; cases he2; rw [<- HQ.out] at d0 d1 d2 d3)
       go_ret
       have e : l.any XG.long = true := List.any_eq_true.2 ⟨l[i], List.getElem_mem hlt, HL.out⟩
       exact ⟨by rw [e]; rfl, B1⟩
     . rw [decide_eq_false hn] at C1
       have H1 := Hd C1
       by_cases hm : 2048 < m
       . rw [decide_eq_true hm] at C2
         have HL := Hd (show l[i].long = true from by rw [HL.out, decide_eq_true hm, Bool.or_true])
         have H2 := Hd C2
         clear C1 C2 hn hm
         go_wp2_with (first | (go_at_call 234; with_reducible refine (H1.out _).mono ?_; rintro e w1 ⟨rfl, hb1⟩; have B1 := Zb HB.out hb1; obtain ⟨ad2, he2, hbl2, d0, d1, d2, d3⟩ := (HR.out.below B1).row4 hlt HE.out.1 HE.out.2.1 HE.out.2.2.1 HE.out.2.2.2; cases he2; rw [<- HQ.out] at d0 d1 d2 d3) | (go_at_call 234; with_reducible refine (H2.out _).mono ?_; rintro e w2 ⟨rfl, hb2⟩; have B2 := Zb B1 hb2))
         go_ret
         have e : l.any XG.long = true := List.any_eq_true.2 ⟨l[i], List.getElem_mem hlt, HL.out⟩
         exact ⟨by rw [e]; rfl, B2⟩
       . rw [decide_eq_false hm] at C2
         have HL := Hd (show l[i].long = false from by rw [HL.out, decide_eq_false hn, decide_eq_false hm]; rfl)
         have H2 := Hd C2
         clear C1 C2 hn hm
         go_wp2_with (first | (go_at_call 234; with_reducible refine (H1.out _).mono ?_; rintro e w1 ⟨rfl, hb1⟩; have B1 := Zb HB.out hb1; obtain ⟨ad2, he2, hbl2, d0, d1, d2, d3⟩ := (HR.out.below B1).row4 hlt HE.out.1 HE.out.2.1 HE.out.2.2.1 HE.out.2.2.2; cases he2; rw [<- HQ.out] at d0 d1 d2 d3) | (go_at_call 234; with_reducible refine (H2.out _).mono ?_; rintro e w2 ⟨rfl, hb2⟩; have B2 := Zb B1 hb2))
         go_roundw
         case rel =>
           refine ⟨i + 1, by go_num, hlt, Hd fun j hj h => ?_, B2⟩
           rcases (by omega : j < i ∨ j = i) with hj | rfl
           . exact HN.out j hj h
           . exact HL.out
         case measure => simp [intOf]; omega
   . have HB := Hd hb
     clear hb
     go_wp2_with fail
     go_ret
     have e : l.any XG.long = false := List.any_eq_false.2 fun x hx => by
       obtain ⟨j, hj, rfl⟩ := List.getElem_of_mem hx
       rw [HN.out j (by omega) hj]
       decide
     exact ⟨by rw [e]; rfl, HB.out⟩
theorem ref02_AnswerL (l : List XG) (A : Option Addr) (c : Nat) (hl : l.length <= 9223372036854775807) (hs : ∀ q ∈ l, q.n <= 9223372036854775807 /\ q.m <= 9223372036854775807) (w : World) (h : ZD w w.heap.size 4 A l.length (Ju l)) (b : Bool) (hb : b = l.any XG.long) :
  Calls Tryz.prog 118 #[.slice A l.length c] w fun e w' => e = .returned (.int .i64 (if b then 4 else 0)) /\ Below w.heap.size w w' := by
 have C := ref02_LongL l A c hl hs w h
 rw [<- hb] at C
 have H := Hd C
 clear C hb h hs
 cases b with
 | true =>
  go_enter Tryz.func118, Tryz.ntmps118
  go_wp2_with (go_at_call 193; with_reducible refine H.out.mono ?_; rintro e w1 ⟨rfl, hb⟩)
  go_ret
  exact ⟨rfl, hb⟩
 | false =>
  go_enter Tryz.func118, Tryz.ntmps118
  go_wp2_with (go_at_call 193; with_reducible refine H.out.mono ?_; rintro e w1 ⟨rfl, hb⟩)
  go_ret
  exact ⟨rfl, hb⟩

theorem allocFracG {o : Oper} (h : o.op = .alloc 26) : AllocF Tryz.prog o 26 4 := by
 refine ⟨#[.bool false, .slice none 0 0, .bool false, .slice none 0 0], rfl, fun ρ w => ?_⟩
 unfold execOp
 rw [h]
 kernel_rfl
theorem JF : (Tryz.prog.info? 28).map (·.size) = some 8 := by kernel_rfl
abbrev OpW (w : World) (F : FuncId) (cap : Value) (n d m f N D : Int) : Prop := ∀ (V : World), Below w.heap.size w V -> ∀ (v1 v2 : Value), Yq V v1 n d -> Yq V v2 m f -> Calls Tryz.prog F #[v1, v2, cap] V (Z3 V.heap.size V N D)

theorem argand_Times_c {n d m f p q r s N D M E s0 s1 p1 p2 q1 q2 a1 a2 b1 b2 r1 r2 j1 j2 : Int} (C1 : XE 21 m f s0) (hz : (s0 == 0) = false) (C2 : XE 21 r s s1) (hz1 : (s1 == 0) = false) (C3 : OpR 199 n d p q p1 p2) (C4 : OpR 199 m f r s q1 q2) (C5 : OpR 200 n d m f a1 a2) (C6 : OpR 200 p q r s b1 b2) (C7 : OpR 199 a1 a2 b1 b2 r1 r2) (C8 : OpR 201 p1 p2 q1 q2 N D) (C9 : OpR 200 p1 p2 q1 q2 j1 j2) (C10 : OpR 201 r1 r2 j1 j2 M E) (w : World) (v_x v_y : Value) (g_x : Zq w v_x n d m f) (g_y : Zq w v_y p q r s)  :
   Calls Tryz.prog 155 #[v_x, v_y] w (ZQ w.heap.size w N D M E) := by
 obtain ⟨Ax1, cx1, Ax2, cx2, Ax3, cx3, Ax4, cx4, rfl, -⟩ := g_x.form
 obtain ⟨Ay1, cy1, Ay2, cy2, Ay3, cy3, Ay4, cy4, rfl, -⟩ := g_y.form
 have H1 := Hd C1
 have H2 := Hd C2
 have H3 := Hd C3
 have H4 := Hd C4
 have H5 := Hd C5
 have H6 := Hd C6
 have H7 := Hd C7
 have H8 := Hd C8
 have H9 := Hd C9
 have H10 := Hd C10
 clear C1 C2 C3 C4 C5 C6 C7 C8 C9 C10
 have G_x := Hd g_x
 have G_y := Hd g_y
 clear g_x g_y
 go_enter Tryz.func155, Tryz.ntmps155
 go_upto_region 1 with fail
 refine boxes3 (P := fun W => Code.wp _ _ _ _ W) fun W p0 p1 p2 b0 => ?_
 have P_x := Hd (Yl.mk p0)
 have P_y := Hd (Yl.mk p1)
 have PR := Hd (Yl.mk p2)
 have HB := Hd b0
 clear b0 p0 p1 p2
 obtain ⟨-, x0, x1, x2, x3, x4, x5, x6, x7⟩ := P_x.out.facts
 go_wp2_with fail
 refine (H1.out W _ (G_x.out.below HB.out).im).mono ?_
 rintro e wx1 ⟨rfl, hb⟩
 clear x0 x1 x2 x3 x4 x5 x6 x7
 have P_x := Hd (P_x.out.below hb)
 have P_y := Hd (P_y.out.below hb)
 have PR := Hd (PR.out.below hb)
 have HB := Hd (Zb HB.out hb)
 clear hb
 obtain ⟨-, y0, y1, y2, y3, y4, y5, y6, y7⟩ := P_y.out.facts
 go_wp2_with fail
 refine (H2.out wx1 _ (G_y.out.below HB.out).im).mono ?_
 rintro e wx2 ⟨rfl, hb⟩
 clear y0 y1 y2 y3 y4 y5 y6 y7
 have P_x := Hd (P_x.out.below hb)
 have P_y := Hd (P_y.out.below hb)
 have PR := Hd (PR.out.below hb)
 have HB := Hd (Zb HB.out hb)
 clear hb
 go_wp2_with fail
 refine Zd [.val (.pointer (some ⟨w.heap.size, 0, none⟩)) [], .val (.agg #[.bool (decide (n < 0)), .slice Ax1 (Za n.natAbs).length cx1, .bool (decide (d < 0)), .slice Ax2 (Za d.natAbs).length cx2]) [], .val (.pointer (some ⟨w.heap.size + 1, 0, none⟩)) [], .val (.agg #[.bool (decide (p < 0)), .slice Ay1 (Za p.natAbs).length cy1, .bool (decide (q < 0)), .slice Ay2 (Za q.natAbs).length cy2]) [], .any false (fun u V => Zl V w.heap.size u p1 p2) [], .val (.pointer (some ⟨w.heap.size, 4, none⟩)) [], .val (.agg #[.bool (decide (m < 0)), .slice Ax3 (Za m.natAbs).length cx3, .bool (decide (f < 0)), .slice Ax4 (Za f.natAbs).length cx4]) [], .val (.pointer (some ⟨w.heap.size + 1, 4, none⟩)) [], .val (.agg #[.bool (decide (r < 0)), .slice Ay3 (Za r.natAbs).length cy3, .bool (decide (s < 0)), .slice Ay4 (Za s.natAbs).length cy4]) [], .any false (fun u V => Zl V w.heap.size u q1 q2) [], .new 26 4, .new 26 4, .put 26 4 10 4 [], .put 26 4 11 9 []] wx2.heap.size wx2 [26] Yj _ Zf (Nat.le_refl _) (Below.refl _ _) (Zu.refl _ _ _) rfl ?_ ?_ ?_ ?_ ?_ ?_ ?_ ?_ rfl (by simp [ZP]) ?_ ?_ ?_ ?_
 iterate 8 kernel_rfl
 . simp only [Zy, and_true]
   exact ⟨fun u V V' h k => h.kept k (by decide), fun u V V' h k => h.kept k (by decide)⟩
 . simp only [Z5]
 . simp (maxSteps := 4000000) [ZH, YD, Zg, ZF, Zn]
   repeat' (first | apply And.intro | (intro (u : Value)) | (intro (u : Nat)))
   all_goals try exact ⟨_, _, _, rfl, rfl, rfl, rfl, YN⟩
   all_goals try exact allocFracG rfl
   all_goals first
   | (intro V hV hK
      have hs_x := P_x.out.blk.lt
      have hs_y := P_y.out.blk.lt
      have qx : Yl V (w.heap.size) _ _ _ _ _ _ _ _ _ := ⟨P_x.out.blk.below hV (by omega)⟩
      obtain ⟨-, x0, x1, x2, x3, x4, x5, x6, x7⟩ := qx.facts
      have qy : Yl V (w.heap.size + 1) _ _ _ _ _ _ _ _ _ := ⟨P_y.out.blk.below hV (by omega)⟩
      obtain ⟨-, y0, y1, y2, y3, y4, y5, y6, y7⟩ := qy.facts
      have hvb := HB.out.trans (hV.mono (by omega))
      have hvs := hvb.size
      have g_x := Hd (G_x.out.below hvb)
      have g_y := Hd (G_y.out.below hvb)
      clear hV hK qx qy
      go_simp
      first
      | exact Below.refl _ _
      | ((with_reducible refine (H3.out V _ _ g_x.out.re g_y.out.re).mono ?_); rintro _ _ ⟨_, rfl, x, y⟩; exact ⟨x.base hvs, y⟩)
      | ((with_reducible refine (H4.out V _ _ g_x.out.im g_y.out.im).mono ?_); rintro _ _ ⟨_, rfl, x, y⟩; exact ⟨x.base hvs, y⟩))
   | exact fun _ _ _ (h : Zl _ _ _ _ _) => h.cells
   | exact fun _ _ _ (h : Zl _ _ _ _ _) _ => h.cells
 . simp [YH, ZK, Zg, ZF, Zn]
   intro u1 u2 b_vp hb_vp b_vq hb_vq V3 hV hK h1 h2 p_vp p_vq _ _ _
   have N_vp := Hd (show b_vp ≠ w.heap.size + 1 + 1 from by have := PR.out.blk.lt; omega)
   have N_vq := Hd (show b_vq ≠ w.heap.size + 1 + 1 from by have := PR.out.blk.lt; omega)
   have O_vp := Hd h1.in_
   obtain ⟨Avp1, cvp1, Avp2, cvp2, rfl, -⟩ := h1.form
   have P_vp := Hd (show Zz V3 b_vp _ _ _ _ from ⟨p_vp⟩)
   have O_vq := Hd h2.in_
   obtain ⟨Avq1, cvq1, Avq2, cvq2, rfl, -⟩ := h2.form
   have P_vq := Hd (show Zz V3 b_vq _ _ _ _ from ⟨p_vq⟩)
   have P_x := Hd (P_x.out.below hV)
   have P_y := Hd (P_y.out.below hV)
   have PR := Hd (PR.out.below hV)
   have HB := Hd (Zb HB.out hV)
   clear hV hK h1 h2 p_vp p_vq hb_vp hb_vq
   go_wp2_with fail
   refine Zd [.val (.pointer (some ⟨w.heap.size, 0, none⟩)) [], .val (.agg #[.bool (decide (n < 0)), .slice Ax1 (Za n.natAbs).length cx1, .bool (decide (d < 0)), .slice Ax2 (Za d.natAbs).length cx2]) [], .val (.pointer (some ⟨w.heap.size, 4, none⟩)) [], .val (.agg #[.bool (decide (m < 0)), .slice Ax3 (Za m.natAbs).length cx3, .bool (decide (f < 0)), .slice Ax4 (Za f.natAbs).length cx4]) [], .any false (fun u V => Zl V w.heap.size u a1 a2) [], .val (.pointer (some ⟨w.heap.size + 1, 0, none⟩)) [], .val (.agg #[.bool (decide (p < 0)), .slice Ay1 (Za p.natAbs).length cy1, .bool (decide (q < 0)), .slice Ay2 (Za q.natAbs).length cy2]) [], .val (.pointer (some ⟨w.heap.size + 1, 4, none⟩)) [], .val (.agg #[.bool (decide (r < 0)), .slice Ay3 (Za r.natAbs).length cy3, .bool (decide (s < 0)), .slice Ay4 (Za s.natAbs).length cy4]) [], .any false (fun u V => Zl V w.heap.size u b1 b2) [], .any false (fun u V => Zl V w.heap.size u r1 r2) [4, 9], .new 26 4, .put 26 4 11 10 []] V3.heap.size V3 [26] Yj _ Zf (Nat.le_refl _) (Below.refl _ _) (Zu.refl _ _ _) rfl ?_ ?_ ?_ ?_ ?_ ?_ ?_ ?_ rfl (by simp [ZP]) ?_ ?_ ?_ ?_
   iterate 8 kernel_rfl
   . simp only [Zy, and_true]
     exact ⟨fun u V V' h k => h.kept k (by decide), fun u V V' h k => h.kept k (by decide), fun u V V' h k => h.kept k (by decide)⟩
   . simp only [Z5]
   . simp (maxSteps := 4000000) [ZH, YD, Zg, ZF, Zn]
     repeat' (first | apply And.intro | (intro (u : Value)) | (intro (u : Nat)))
     all_goals try exact ⟨_, _, _, rfl, rfl, rfl, rfl, YN⟩
     all_goals try exact allocFracG rfl
     all_goals first
     | (intro V hV hK
        have hs_x := P_x.out.blk.lt
        have hs_y := P_y.out.blk.lt
        have qx : Yl V (w.heap.size) _ _ _ _ _ _ _ _ _ := ⟨P_x.out.blk.below hV (by omega)⟩
        obtain ⟨-, x0, x1, x2, x3, x4, x5, x6, x7⟩ := qx.facts
        have qy : Yl V (w.heap.size + 1) _ _ _ _ _ _ _ _ _ := ⟨P_y.out.blk.below hV (by omega)⟩
        obtain ⟨-, y0, y1, y2, y3, y4, y5, y6, y7⟩ := qy.facts
        have qvp := P_vp.out.below hV
        obtain ⟨-, a_vp0, a_vp1, a_vp2, a_vp3, -, -, -, -⟩ := qvp.facts
        have o_vp := Hd (O_vp.out.below hV)
        have qvq := P_vq.out.below hV
        obtain ⟨-, a_vq0, a_vq1, a_vq2, a_vq3, -, -, -, -⟩ := qvq.facts
        have o_vq := Hd (O_vq.out.below hV)
        have hvb := HB.out.trans (hV.mono (by omega))
        have hvs := hvb.size
        have g_x := Hd (G_x.out.below hvb)
        have g_y := Hd (G_y.out.below hvb)
        clear hV hK qx qy qvp qvq
        go_simp
        first
        | exact Below.refl _ _
        | ((with_reducible refine (H5.out V _ _ g_x.out.re g_x.out.im).mono ?_); rintro _ _ ⟨_, rfl, x, y⟩; exact ⟨x.base hvs, y⟩)
        | ((with_reducible refine (H6.out V _ _ g_y.out.re g_y.out.im).mono ?_); rintro _ _ ⟨_, rfl, x, y⟩; exact ⟨x.base hvs, y⟩))
     | (intro V hV hK h1 h2
        have hs_x := P_x.out.blk.lt
        have hs_y := P_y.out.blk.lt
        have qx : Yl V (w.heap.size) _ _ _ _ _ _ _ _ _ := ⟨P_x.out.blk.below hV (by omega)⟩
        obtain ⟨-, x0, x1, x2, x3, x4, x5, x6, x7⟩ := qx.facts
        have qy : Yl V (w.heap.size + 1) _ _ _ _ _ _ _ _ _ := ⟨P_y.out.blk.below hV (by omega)⟩
        obtain ⟨-, y0, y1, y2, y3, y4, y5, y6, y7⟩ := qy.facts
        have qvp := P_vp.out.below hV
        obtain ⟨-, a_vp0, a_vp1, a_vp2, a_vp3, -, -, -, -⟩ := qvp.facts
        have o_vp := Hd (O_vp.out.below hV)
        have qvq := P_vq.out.below hV
        obtain ⟨-, a_vq0, a_vq1, a_vq2, a_vq3, -, -, -, -⟩ := qvq.facts
        have o_vq := Hd (O_vq.out.below hV)
        have hvb := HB.out.trans (hV.mono (by omega))
        have hvs := hvb.size
        have g_x := Hd (G_x.out.below hvb)
        have g_y := Hd (G_y.out.below hvb)
        clear hV hK qx qy qvp qvq
        go_simp
        ((with_reducible refine (H7.out V _ _ h1.at_ h2.at_).mono ?_); rintro _ _ ⟨_, rfl, x, y⟩; exact ⟨x.base hvs, y⟩))
     | exact fun _ _ _ (h : Zl _ _ _ _ _) => h.cells
     | exact fun _ _ _ (h : Zl _ _ _ _ _) _ => h.cells
   . simp [YH, ZK, Zg, ZF, Zn]
     intro u1 u2 u3 b_vr hb_vr V4 hV hK h1 h2 h3 p_vr _ _ _
     have N_vr := Hd (show b_vr ≠ w.heap.size + 1 + 1 from by have := PR.out.blk.lt; omega)
     have O_vr := Hd h3.in_
     obtain ⟨Avr1, cvr1, Avr2, cvr2, rfl, -⟩ := h3.form
     have P_vr := Hd (show Zz V4 b_vr _ _ _ _ from ⟨p_vr⟩)
     have P_x := Hd (P_x.out.below hV)
     have P_y := Hd (P_y.out.below hV)
     have P_vp := Hd (P_vp.out.below hV)
     have O_vp := Hd (O_vp.out.below hV)
     have P_vq := Hd (P_vq.out.below hV)
     have O_vq := Hd (O_vq.out.below hV)
     have PR := Hd (PR.out.below hV)
     have HB := Hd (Zb HB.out hV)
     clear hV hK h1 h2 h3 p_vr hb_vr
     have hsz := PR.out.blk.lt
     go_wp2_with fail
     refine Zd [.val (.agg #[.bool (decide (p1 < 0)), .slice Avp1 (Za p1.natAbs).length cvp1, .bool (decide (p2 < 0)), .slice Avp2 (Za p2.natAbs).length cvp2]) [], .val (.agg #[.bool (decide (q1 < 0)), .slice Avq1 (Za q1.natAbs).length cvq1, .bool (decide (q2 < 0)), .slice Avq2 (Za q2.natAbs).length cvq2]) [], .any true (fun u V => Zl V w.heap.size u N D) [], .val (.agg #[.bool (decide (r1 < 0)), .slice Avr1 (Za r1.natAbs).length cvr1, .bool (decide (r2 < 0)), .slice Avr2 (Za r2.natAbs).length cvr2]) [], .val (.agg #[.bool (decide (p1 < 0)), .slice Avp1 (Za p1.natAbs).length cvp1, .bool (decide (p2 < 0)), .slice Avp2 (Za p2.natAbs).length cvp2]) [], .val (.agg #[.bool (decide (q1 < 0)), .slice Avq1 (Za q1.natAbs).length cvq1, .bool (decide (q2 < 0)), .slice Avq2 (Za q2.natAbs).length cvq2]) [], .any false (fun u V => Zl V w.heap.size u j1 j2) [], .any true (fun u V => Zl V w.heap.size u M E) [6], .any false (fun u V => Zo V w.heap.size u N D M E) [2, 7, 1002007], .old (w.heap.size + 1 + 1) 28 #[.bool false, .slice none 0 0, .bool false, .slice none 0 0, .bool false, .slice none 0 0, .bool false, .slice none 0 0] 0 8 8 []] (w.heap.size + 1 + 1) V4 [28] Yj _ Zf (by omega) (Below.refl _ _) (Zu.refl _ _ _) rfl ?_ ?_ ?_ ?_ ?_ ?_ ?_ ?_ rfl (by simp [ZP]) ?_ ?_ ?_ ?_
     iterate 8 kernel_rfl
     . simp only [Zy, and_true]
       exact ⟨fun u V V' h k => h.kept k (by decide), fun u V V' h k => h.kept k (by decide), fun u V V' h k => h.kept k (by decide), fun u V V' h k => h.kept k (by decide)⟩
     . simp only [Z5, and_true]
       exact ⟨Nat.le_refl _, PR.out.blk.lt, PR.out.blk, by simp⟩
     . simp (maxSteps := 4000000) [ZH, YD, Zg, ZF, Zn]
       repeat' (first | apply And.intro | (intro (u : Value)) | (intro (u : Nat)))
       all_goals try exact ⟨_, _, _, rfl, rfl, rfl, rfl, JF⟩
       all_goals first
       | (intro V hV hK
          have qx : Yl V (w.heap.size) _ _ _ _ _ _ _ _ _ := ⟨P_x.out.blk.below hV (by omega)⟩
          obtain ⟨-, x0, x1, x2, x3, x4, x5, x6, x7⟩ := qx.facts
          have qy : Yl V (w.heap.size + 1) _ _ _ _ _ _ _ _ _ := ⟨P_y.out.blk.below hV (by omega)⟩
          obtain ⟨-, y0, y1, y2, y3, y4, y5, y6, y7⟩ := qy.facts
          have qvp := Zz.mk (hK.blk P_vp.out.blk (by decide))
          obtain ⟨-, a_vp0, a_vp1, a_vp2, a_vp3, -, -, -, -⟩ := qvp.facts
          have o_vp := Hd (O_vp.out.kept hK (by decide))
          have qvq := Zz.mk (hK.blk P_vq.out.blk (by decide))
          obtain ⟨-, a_vq0, a_vq1, a_vq2, a_vq3, -, -, -, -⟩ := qvq.facts
          have o_vq := Hd (O_vq.out.kept hK (by decide))
          have qvr := Zz.mk (hK.blk P_vr.out.blk (by decide))
          obtain ⟨-, a_vr0, a_vr1, a_vr2, a_vr3, -, -, -, -⟩ := qvr.facts
          have o_vr := Hd (O_vr.out.kept hK (by decide))
          have hvb := HB.out.trans (hV.mono (by omega))
          have hvs := hvb.size
          have g_x := Hd (G_x.out.below hvb)
          have g_y := Hd (G_y.out.below hvb)
          clear hV hK qx qy qvp qvq qvr
          go_simp
          first
          | exact Below.refl _ _
          | ((with_reducible refine (H8.out V _ _ o_vp.out.at_ o_vq.out.at_).mono ?_); rintro _ _ ⟨_, rfl, x, y⟩; exact ⟨x.base hvs, y, x.mine⟩)
          | ((with_reducible refine (H9.out V _ _ o_vp.out.at_ o_vq.out.at_).mono ?_); rintro _ _ ⟨_, rfl, x, y⟩; exact ⟨x.base hvs, y⟩))
       | (intro V hV hK h1
          have qx : Yl V (w.heap.size) _ _ _ _ _ _ _ _ _ := ⟨P_x.out.blk.below hV (by omega)⟩
          obtain ⟨-, x0, x1, x2, x3, x4, x5, x6, x7⟩ := qx.facts
          have qy : Yl V (w.heap.size + 1) _ _ _ _ _ _ _ _ _ := ⟨P_y.out.blk.below hV (by omega)⟩
          obtain ⟨-, y0, y1, y2, y3, y4, y5, y6, y7⟩ := qy.facts
          have qvp := Zz.mk (hK.blk P_vp.out.blk (by decide))
          obtain ⟨-, a_vp0, a_vp1, a_vp2, a_vp3, -, -, -, -⟩ := qvp.facts
          have o_vp := Hd (O_vp.out.kept hK (by decide))
          have qvq := Zz.mk (hK.blk P_vq.out.blk (by decide))
          obtain ⟨-, a_vq0, a_vq1, a_vq2, a_vq3, -, -, -, -⟩ := qvq.facts
          have o_vq := Hd (O_vq.out.kept hK (by decide))
          have qvr := Zz.mk (hK.blk P_vr.out.blk (by decide))
          obtain ⟨-, a_vr0, a_vr1, a_vr2, a_vr3, -, -, -, -⟩ := qvr.facts
          have o_vr := Hd (O_vr.out.kept hK (by decide))
          have hvb := HB.out.trans (hV.mono (by omega))
          have hvs := hvb.size
          have g_x := Hd (G_x.out.below hvb)
          have g_y := Hd (G_y.out.below hvb)
          clear hV hK qx qy qvp qvq qvr
          go_simp
          ((with_reducible refine (H10.out V _ _ o_vr.out.at_ h1.at_).mono ?_); rintro _ _ ⟨_, rfl, x, y⟩; exact ⟨x.base hvs, y, x.mine⟩))
       | (intro V hV hK h1 h2 hq
          obtain ⟨A1, c1, B1, e1, rfl, -, -, -⟩ := h1.form
          obtain ⟨A2, c2, B2, e2, rfl, -, -, -⟩ := h2.form
          clear hV hK
          go_simp
          exact ⟨⟨_, _, _, _, _, _, _, _, rfl, h1, h2, hq⟩, Below.refl _ _⟩)
       | exact fun _ _ _ (h : Zo _ _ _ _ _ _ _) => h.cells
     . simp [YH, ZK, Zg, ZF, Zn]
       intro u1 u2 u3 u4 V hV hK h1 h2 h3 h4 bq _ _ _
       have HF := Hd h4
       obtain ⟨A6, c6, A7, c7, A8, c8, A9, c9, rfl, -⟩ := h4.form
       simp [Yd, Value.cells] at bq
       have k0 := bq.cell 0
       have k1 := bq.cell 1
       have k2 := bq.cell 2
       have k3 := bq.cell 3
       have k4 := bq.cell 4
       have k5 := bq.cell 5
       have k6 := bq.cell 6
       have k7 := bq.cell 7
       simp at k0 k1 k2 k3 k4 k5 k6 k7
       have HB9 := Hd (HB.out.trans (hV.mono (by omega)))
       clear h1 h2 h3 h4 hV hK bq
       go_wp2_with fail
       exact bodyPost_ret (by simp [results, Tryz.results155, go_sem, k0, k1, k2, k3, k4, k5, k6, k7]) rfl ⟨_, rfl, HF.out, HB9.out⟩
end Go.Proofs.YtdonecnhdkjniaaGreatDoor
