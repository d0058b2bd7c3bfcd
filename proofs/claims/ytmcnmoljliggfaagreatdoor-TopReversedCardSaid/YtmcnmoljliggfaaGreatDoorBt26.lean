/- Several texts in one: Longs, FList, RayA, RayB, RayC. -/
import Derived.Test.YtmcnmoljliggfaaGreatDoorBt25
set_option maxRecDepth 100000
set_option maxHeartbeats 8000000
/- Long and Answer of package ratio and of the references, over a list of any length. (Written by wip/gauss/genlongs.py.) -/
namespace Go.Proofs.YtmcnmoljliggfaaGreatDoor
open Go.RowKit

def FLoc.long (q : FLoc) : Bool := decide (2048 < q.n) || decide (2048 < q.m)
theorem long_a {q : FLoc} {b1 : Bool} {A1 : Option Addr} {n c9 : Nat} {b2 : Bool} {B1 : Option Addr} {m e9 : Nat} (h : ⟨b1, A1, n, c9, b2, B1, m, e9⟩ = q) : q.long = (decide (2048 < n) || decide (2048 < m)) := by rw [← h]; rfl

theorem ratio_LongL (l : List FLoc) (A : Option Addr) (c : Nat) (hl : l.length ≤ 9223372036854775807) (hs : ∀ q ∈ l, q.n ≤ 9223372036854775807 ∧ q.m ≤ 9223372036854775807) (w : World) (h : Reads w w.heap.size 4 A l.length (cellsF l)) :
    Calls Tryz.prog 64 #[.slice A l.length c] w fun e w' => e = .returned (.bool (l.any FLoc.long)) ∧ Below w.heap.size w w' := by
  have HR := Hd h
  have HS := Hd hs
  clear h hs
  have H0 := Hd (by intro j hj; omega : ∀ j (_ : j < 0), (h : j < l.length) → l[j].long = false)
  go_enter Tryz.func64, Tryz.ntmps64
  go_wp2_with fail
  go_loopw [7] (fun s wr => ∃ i : Nat, s = .int .i64 i ∧ i ≤ l.length ∧ Hid (∀ j (_ : j < i), (h : j < l.length) → l[j].long = false) ∧ Below w.heap.size w wr) (fun s _ => l.length - (intOf s).toNat)
  case atStart => exact ⟨0, rfl, Nat.zero_le _, H0, Below.refl _ _⟩
  case round =>
    obtain ⟨i, rfl, hi, HN, hb⟩ := hrel
    clear H0
    by_cases hlt : i < l.length
    · have a0 : (0 : Int) ≤ (i : Int) := by omega
      have a1 : (i : Int) < (l.length : Int) := by omega
      obtain ⟨e0, e1, e2, e3⟩ := cellsF_get l i hlt
      obtain ⟨ad, rfl, hbl, c0, c1, c2, c3⟩ := (HR.out.below hb).row4 hlt e0 e1 e2 e3
      obtain ⟨h1, h2⟩ := HS.out _ (List.getElem_mem hlt)
      have HB := Hd hb
      have HE := Hd (And.intro e0 (And.intro e1 (And.intro e2 e3)))
      clear e0 e1 e2 e3 hbl hb
      obtain ⟨q, hq⟩ : ∃ q, q = l[i] := ⟨_, rfl⟩
      have HQ := Hd hq
      rw [← hq] at c0 c1 c2 c3 h1 h2
      clear hq
      obtain ⟨b1, A1, n, c9, b2, E1, m, e9⟩ := q
      simp only at c0 c1 c2 c3 h1 h2
      have C1 := fun (V : World) (g' : Nat) (hg : V.heap.size = g') => flong_one b1 A1 n c9 h1 V g' hg
      have C2 := fun (V : World) (g' : Nat) (hg : V.heap.size = g') => flong_one b2 E1 m e9 h2 V g' hg
      have HL := Hd (long_a HQ.out)
      clear h1 h2
      by_cases hn : 2048 < n
      · rw [decide_eq_true hn] at C1
        have HL := Hd (show l[i].long = true from by rw [HL.out, decide_eq_true hn]; rfl)
        have H1 := Hd C1
        clear C1 C2 hn
        go_wp2_with (go_at_call 94; with_reducible refine (H1.out _ _ (by simp)).mono ?_; rintro e w1 ⟨rfl, hb1⟩; have q4 := ((Quad.new wr (.bool b1) (.slice A1 n c9) (.bool b2) (.slice E1 m e9)).alloc (.cells #[.bool b1, .slice A1 n c9] 25)).below hb1; have B1 := belowTo ((HB.out.alloc HB.out.size _).alloc (by simp; have := HB.out.size; omega) _) hb1; obtain ⟨l4, y0, y1, y2, y3, -, -, -, -⟩ := q4.facts)
        go_ret
        have e : l.any FLoc.long = true := List.any_eq_true.2 ⟨l[i], List.getElem_mem hlt, HL.out⟩
        exact ⟨by rw [e]; rfl, B1⟩
      · rw [decide_eq_false hn] at C1
        have H1 := Hd C1
        by_cases hm : 2048 < m
        · rw [decide_eq_true hm] at C2
          have HL := Hd (show l[i].long = true from by rw [HL.out, decide_eq_true hm, Bool.or_true])
          have H2 := Hd C2
          clear C1 C2 hn hm
          go_wp2_with (first | (go_at_call 94; with_reducible refine (H1.out _ _ (by simp)).mono ?_; rintro e w1 ⟨rfl, hb1⟩; have q4 := ((Quad.new wr (.bool b1) (.slice A1 n c9) (.bool b2) (.slice E1 m e9)).alloc (.cells #[.bool b1, .slice A1 n c9] 25)).below hb1; have B1 := belowTo ((HB.out.alloc HB.out.size _).alloc (by simp; have := HB.out.size; omega) _) hb1; obtain ⟨l4, y0, y1, y2, y3, -, -, -, -⟩ := q4.facts) | (go_at_call 94; with_reducible refine (H2.out _ _ rfl).mono ?_; rintro e w2 ⟨rfl, hb2⟩; have B2 := belowTo (B1.alloc B1.size _) hb2))
          go_ret
          have e : l.any FLoc.long = true := List.any_eq_true.2 ⟨l[i], List.getElem_mem hlt, HL.out⟩
          exact ⟨by rw [e]; rfl, B2⟩
        · rw [decide_eq_false hm] at C2
          have HL := Hd (show l[i].long = false from by rw [HL.out, decide_eq_false hn, decide_eq_false hm]; rfl)
          have H2 := Hd C2
          clear C1 C2 hn hm
          go_wp2_with (first | (go_at_call 94; with_reducible refine (H1.out _ _ (by simp)).mono ?_; rintro e w1 ⟨rfl, hb1⟩; have q4 := ((Quad.new wr (.bool b1) (.slice A1 n c9) (.bool b2) (.slice E1 m e9)).alloc (.cells #[.bool b1, .slice A1 n c9] 25)).below hb1; have B1 := belowTo ((HB.out.alloc HB.out.size _).alloc (by simp; have := HB.out.size; omega) _) hb1; obtain ⟨l4, y0, y1, y2, y3, -, -, -, -⟩ := q4.facts) | (go_at_call 94; with_reducible refine (H2.out _ _ rfl).mono ?_; rintro e w2 ⟨rfl, hb2⟩; have B2 := belowTo (B1.alloc B1.size _) hb2))
          go_roundw
          case rel =>
            refine ⟨i + 1, by go_num, hlt, Hd fun j hj h => ?_, B2⟩
            rcases (by omega : j < i ∨ j = i) with hj | rfl
            · exact HN.out j hj h
            · exact HL.out
          case measure => simp [intOf]; omega
    · have HB := Hd hb
      clear hb
      go_wp2_with fail
      go_ret
      have e : l.any FLoc.long = false := List.any_eq_false.2 fun x hx => by
        obtain ⟨j, hj, rfl⟩ := List.getElem_of_mem hx
        rw [HN.out j (by omega) hj]
        decide
      exact ⟨by rw [e]; rfl, HB.out⟩
theorem ratio_AnswerL (l : List FLoc) (A : Option Addr) (c : Nat) (hl : l.length ≤ 9223372036854775807) (hs : ∀ q ∈ l, q.n ≤ 9223372036854775807 ∧ q.m ≤ 9223372036854775807) (w : World) (h : Reads w w.heap.size 4 A l.length (cellsF l)) (b : Bool) (hb : b = l.any FLoc.long) :
    Calls Tryz.prog 69 #[.slice A l.length c] w fun e w' => e = .returned (.int .i64 (if b then 4 else 0)) ∧ Below w.heap.size w w' := by
  have C := ratio_LongL l A c hl hs w h
  rw [← hb] at C
  have H := Hd C
  clear C hb h hs
  cases b with
  | true =>
    go_enter Tryz.func69, Tryz.ntmps69
    go_wp2_with (go_at_call 64; with_reducible refine H.out.mono ?_; rintro e w1 ⟨rfl, hb⟩)
    go_ret
    exact ⟨rfl, hb⟩
  | false =>
    go_enter Tryz.func69, Tryz.ntmps69
    go_wp2_with (go_at_call 64; with_reducible refine H.out.mono ?_; rintro e w1 ⟨rfl, hb⟩)
    go_ret
    exact ⟨rfl, hb⟩

/- Lists of fractions: what lies in them; Checks, Long, Answer of them. -/

def FAs (w : World) : List FLoc → List (Int × Int) → Prop
  | [], [] => True
  | q :: l, z :: zs => FracAt w q.val z.1 z.2 ∧ FAs w l zs
  | _, _ => False
def FIs (w : World) : List FLoc → List (Int × Int) → Prop
  | [], [] => True
  | q :: l, z :: zs => FracIn w 0 q.val z.1 z.2 ∧ FIs w l zs
  | _, _ => False
theorem FIs.at_ {w : World} : ∀ {l : List FLoc} {zs : List (Int × Int)}, FIs w l zs → FAs w l zs
  | [], [], _ => trivial
  | q :: l, z :: zs, h => by
    obtain ⟨A, c, B, e, h0, h1, h2⟩ := h.1.form
    exact ⟨⟨A, c, B, e, h0, h1.rawAt, h2.rawAt⟩, FIs.at_ h.2⟩
theorem FIs.kept {B : Nat} {Ts : List TypeId} {w w' : World} (k : KeptV B Ts w w') (hT : 109 ∉ Ts) : ∀ {l : List FLoc} {zs : List (Int × Int)}, FIs w l zs → FIs w' l zs
  | [], [], _ => trivial
  | _ :: _, _ :: _, h => ⟨h.1.kept k hT, FIs.kept k hT h.2⟩
theorem FAs.below {w w' : World} (hb : Below w.heap.size w w') : ∀ {l : List FLoc} {zs : List (Int × Int)}, FAs w l zs → FAs w' l zs
  | [], [], _ => trivial
  | _ :: _, _ :: _, h => ⟨h.1.below hb, FAs.below hb h.2⟩
theorem floc_eq {w : World} {q : FLoc} {n d : Int} (h : FracAt w q.val n d) : q.n1 = decide (n < 0) ∧ q.n2 = decide (d < 0) ∧ q.n = (natL n.natAbs).length ∧ q.m = (natL d.natAbs).length ∧ Raw w q.A q.c (natL n.natAbs) ∧ Raw w q.B q.e (natL d.natAbs) := by
  obtain ⟨A, c, B, e, h0, h1, h2⟩ := h.form
  unfold FLoc.val at h0
  simp only [Value.agg.injEq, Array.mk.injEq, List.cons.injEq, Value.bool.injEq, Value.slice.injEq, and_true] at h0
  obtain ⟨e1, ⟨e2, e3, e4⟩, e5, e6, e7, e8⟩ := h0
  exact ⟨e1, e5, e3, e7, by rw [e2, e4]; exact h1, by rw [e6, e8]; exact h2⟩
def longZ (zs : List (Int × Int)) : Bool := zs.any fun z => decide (2048 < lz z.1) || decide (2048 < lz z.2)
theorem FAs.long {w : World} : ∀ {l : List FLoc} {zs : List (Int × Int)}, FAs w l zs → l.any FLoc.long = longZ zs
  | [], [], _ => rfl
  | q :: l, z :: zs, h => by
    obtain ⟨-, -, e1, e2, -, -⟩ := floc_eq h.1
    have ih := h.2.long
    unfold longZ at ih ⊢
    rw [List.any_cons, List.any_cons, ih]
    unfold FLoc.long lz
    rw [e1, e2]
theorem FAs.small {w : World} : ∀ {l : List FLoc} {zs : List (Int × Int)}, FAs w l zs → ∀ q ∈ l, q.n ≤ 9223372036854775807 ∧ q.m ≤ 9223372036854775807
  | [], [], _, q, hq => by cases hq
  | p :: l, z :: zs, h, q, hq => by
    rcases List.mem_cons.1 hq with rfl | hq
    · obtain ⟨-, -, e1, e2, r1, r2⟩ := floc_eq h.1
      rw [e1, e2]
      exact ⟨Nat.le_trans r1.cap r1.most, Nat.le_trans r2.cap r2.most⟩
    · exact h.2.small q hq
structure FA (w : World) (u : Value) (zs : List (Int × Int)) : Prop where
  form : ∃ g c cs l, u = .slice (some ⟨g, 0, none⟩) l.length c ∧ Blk w g 27 cs ∧ cellsF l <+: cs.toList ∧ FAs w l zs ∧ l.length ≤ 1000
structure FL (w : World) (u : Value) (zs : List (Int × Int)) : Prop where
  form : ∃ g c cs l, u = .slice (some ⟨g, 0, none⟩) l.length c ∧ Blk w g 27 cs ∧ cellsF l <+: cs.toList ∧ FIs w l zs ∧ l.length ≤ 1000
theorem FL.at_ {w : World} {u : Value} {zs : List (Int × Int)} (h : FL w u zs) : FA w u zs := by
  obtain ⟨g, c, cs, l, h0, h1, h2, h3, h4⟩ := h.form
  exact ⟨g, c, cs, l, h0, h1, h2, h3.at_, h4⟩
theorem FL.kept {B : Nat} {Ts : List TypeId} {w w' : World} {u : Value} {zs : List (Int × Int)} (h : FL w u zs) (k : KeptV B Ts w w') (hT : 109 ∉ Ts) (hF : 27 ∉ Ts) : FL w' u zs := by
  obtain ⟨g, c, cs, l, h0, h1, h2, h3, h4⟩ := h.form
  exact ⟨g, c, cs, l, h0, k.blk h1 hF, h2, h3.kept k hT, h4⟩
theorem FL.below {w w' : World} {u : Value} {zs : List (Int × Int)} (h : FL w u zs) (hb : Below w.heap.size w w') : FL w' u zs := h.kept (Ts := []) (KeptV.of_below (B := 0) hb) (by simp) (by simp)
theorem FA.below {w w' : World} {u : Value} {zs : List (Int × Int)} (h : FA w u zs) (hb : Below w.heap.size w w') : FA w' u zs := by
  obtain ⟨g, c, cs, l, h0, h1, h2, h3, h4⟩ := h.form
  exact ⟨g, c, cs, l, h0, h1.below hb h1.lt, h2, h3.below hb, h4⟩
theorem cellsF_len : ∀ l : List FLoc, (cellsF l).length = l.length * 4
  | [] => rfl
  | q :: l => by
    have ih := cellsF_len l
    unfold cellsF at ih ⊢
    rw [List.flatMap_cons, List.length_append, ih, List.length_cons]
    simp [FLoc.cells]
    omega
theorem reads_pre {w : World} {g n size : Nat} {t : TypeId} {cs : Array Value} {xs : List Value} (h : Blk w g t cs) (hp : xs <+: cs.toList) (hl : xs.length = n * size) : Reads w w.heap.size size (some ⟨g, 0, none⟩) n xs :=
  ⟨hl, fun _ => ⟨⟨g, 0, none⟩, rfl, h.lt, fun j u hu => by
    obtain ⟨ys, hy⟩ := hp
    rw [show (⟨g, 0, none⟩ : Addr).add j = ⟨g, j, none⟩ by unfold Addr.add; split <;> simp_all, h.cell j, ← Array.getElem?_toList, ← hy, List.getElem?_append_left (List.getElem?_eq_some_iff.1 hu).1, hu]⟩⟩
theorem FA.long {w : World} {u : Value} {zs : List (Int × Int)} (h : FA w u zs) : Calls Tryz.prog 64 #[u] w fun e w' => e = .returned (.bool (longZ zs)) ∧ Below w.heap.size w w' := by
  obtain ⟨g, c, cs, l, rfl, h1, h2, h3, h4⟩ := h.form
  rw [← h3.long]
  exact ratio_LongL l _ c (by omega) h3.small w (reads_pre h1 h2 (cellsF_len l))
theorem FA.answer {w : World} {u : Value} {zs : List (Int × Int)} (h : FA w u zs) {b : Bool} (hb : b = longZ zs) : Calls Tryz.prog 69 #[u] w fun e w' => e = .returned (.int .i64 (if b then 4 else 0)) ∧ Below w.heap.size w w' := by
  obtain ⟨g, c, cs, l, rfl, h1, h2, h3, h4⟩ := h.form
  exact ratio_AnswerL l _ c (by omega) h3.small w (reads_pre h1 h2 (cellsF_len l)) b (hb.trans h3.long.symm)
theorem FAs.get {w : World} : ∀ {l : List FLoc} {zs : List (Int × Int)}, FAs w l zs → ∀ i (hi : i < l.length), ∃ z ∈ zs, FracAt w l[i].val z.1 z.2
  | [], [], _, i, hi => by simp at hi
  | q :: l, z :: zs, h, 0, _ => ⟨z, List.mem_cons_self .., h.1⟩
  | q :: l, z :: zs, h, i + 1, hi => by
    obtain ⟨y, h1, h2⟩ := h.2.get i (by simpa using hi)
    exact ⟨y, List.mem_cons_of_mem _ h1, h2⟩
theorem FA.checks {w : World} {u : Value} {zs : List (Int × Int)} (h : FA w u zs) (hf : ∀ z ∈ zs, Fine z.1 z.2) : Calls Tryz.prog 40 #[u] w fun e w' => e = .returned (.bool true) ∧ Below w.heap.size w w' := by
  obtain ⟨g, c, cs, l, rfl, h1, h2, h3, h4⟩ := h.form
  have C := ratio_ChecksI l (fun _ => true) (some ⟨g, 0, none⟩) c (by omega) w (reads_pre h1 h2 (cellsF_len l)) (by
    intro q hq V hV
    obtain ⟨z, hz, hF⟩ := (h3.below hV).get q hq
    obtain ⟨e1, e2, e3, e4, r1, r2⟩ := floc_eq hF
    have C := ratio_Check l[q].n1 l[q].n2 l[q].A l[q].B l[q].c l[q].e _ _ V r1 r2
    rw [e1, e2, (hf z hz).chk, ← e3, ← e4, ← e1, ← e2] at C
    exact C)
  rwa [show (List.range l.length).all (fun _ => true) = true from List.all_eq_true.2 fun _ _ => rfl] at C
/- Package ray: pair, det, fourOf, matrix, Check. (Written by wip/top/genraya.py.) -/

theorem fourInfo : (Tryz.prog.info? 79).map (·.size) = some 16 := by kernel_rfl

theorem rpair_w {n d m f p q r s p1 p2 q1 q2 N D : Int} (C1 : OpI 67 n d m f p1 p2) (C2 : OpI 67 p q r s q1 q2) (C3 : OpI 66 p1 p2 q1 q2 N D) (w : World) (v_a v_b v_c v_e : Value) (g_a : FracAt w v_a n d) (g_b : FracAt w v_b m f) (g_c : FracAt w v_c p q) (g_e : FracAt w v_e r s)  :
    Calls Tryz.prog 35 #[v_a, v_b, v_c, v_e] w (RetFracIn w N D) := by
  obtain ⟨Aa1, ca1, Aa2, ca2, rfl, -⟩ := g_a.form
  obtain ⟨Ab1, cb1, Ab2, cb2, rfl, -⟩ := g_b.form
  obtain ⟨Ac1, cc1, Ac2, cc2, rfl, -⟩ := g_c.form
  obtain ⟨Ae1, ce1, Ae2, ce2, rfl, -⟩ := g_e.form
  have H1 := Hd C1
  have H2 := Hd C2
  have H3 := Hd C3
  clear C1 C2 C3
  have G_a := Hd g_a
  have G_b := Hd g_b
  have G_c := Hd g_c
  have G_e := Hd g_e
  clear g_a g_b g_c g_e
  go_enter Tryz.func35, Tryz.ntmps35
  go_upto_region 1 with fail
  refine boxes5 (P := fun W => Code.wp _ _ _ _ W) fun W p0 p1 p2 p3 p4 b0 => ?_
  have P_a := Hd (Quad.mk p0)
  have P_b := Hd (Quad.mk p1)
  have P_c := Hd (Quad.mk p2)
  have P_e := Hd (Quad.mk p3)
  have PR := Hd (Quad.mk p4)
  have HB := Hd b0
  clear b0 p0 p1 p2 p3 p4
  have hsz := PR.out.blk.lt
  go_wp2_with fail
  refine wp_region_free [.val (.agg #[.bool (decide (n < 0)), .slice Aa1 (natL n.natAbs).length ca1, .bool (decide (d < 0)), .slice Aa2 (natL d.natAbs).length ca2]) [], .val (.agg #[.bool (decide (m < 0)), .slice Ab1 (natL m.natAbs).length cb1, .bool (decide (f < 0)), .slice Ab2 (natL f.natAbs).length cb2]) [], .any false (fun u V => FracIn V 0 u p1 p2) [], .val (.agg #[.bool (decide (p < 0)), .slice Ac1 (natL p.natAbs).length cc1, .bool (decide (q < 0)), .slice Ac2 (natL q.natAbs).length cc2]) [], .val (.agg #[.bool (decide (r < 0)), .slice Ae1 (natL r.natAbs).length ce1, .bool (decide (s < 0)), .slice Ae2 (natL s.natAbs).length ce2]) [], .any false (fun u V => FracIn V 0 u q1 q2) [], .any false (fun u V => FracIn V 0 u N D) [2, 5], .old (w.heap.size + 1 + 1 + 1 + 1) 27 #[.bool false, .slice none 0 0, .bool false, .slice none 0 0] 0 4 6 []] (w.heap.size + 1 + 1 + 1 + 1) W [27] (fun _ _ => False) _ mixedOrders2 (by omega) (Below.refl _ _) (KeptV.refl _ _ _) rfl (by kernel_rfl) (by kernel_rfl) (by kernel_rfl) (by kernel_rfl) (by kernel_rfl) (by kernel_rfl) (by kernel_rfl) (by kernel_rfl) rfl (by simp [oldsF]) ?_ ?_ ?_ ?_
  · simp only [StableF, and_true]
    exact ⟨fun u V V' h k => h.kept k (by decide), fun u V V' h k => h.kept k (by decide), fun u V V' h k => h.kept k (by decide)⟩
  · simp only [OldsF, and_true]
    exact ⟨Nat.le_refl _, PR.out.blk.lt, PR.out.blk, by simp⟩
  · simp (maxSteps := 4000000) [StepsF, DepF, freeAct, fill, pairs]
    repeat' (first | apply And.intro | (intro (u : Value)) | (intro (u : Nat)))
    all_goals try exact ⟨_, _, _, rfl, rfl, rfl, rfl, fracInfo⟩
    all_goals first
    | (intro V hV hK
       have qa : Quad V (w.heap.size) _ _ _ _ := ⟨P_a.out.blk.below hV (by omega)⟩
       obtain ⟨-, a_a0, a_a1, a_a2, a_a3, -, -, -, -⟩ := qa.facts
       have qb : Quad V (w.heap.size + 1) _ _ _ _ := ⟨P_b.out.blk.below hV (by omega)⟩
       obtain ⟨-, a_b0, a_b1, a_b2, a_b3, -, -, -, -⟩ := qb.facts
       have qc : Quad V (w.heap.size + 1 + 1) _ _ _ _ := ⟨P_c.out.blk.below hV (by omega)⟩
       obtain ⟨-, a_c0, a_c1, a_c2, a_c3, -, -, -, -⟩ := qc.facts
       have qe : Quad V (w.heap.size + 1 + 1 + 1) _ _ _ _ := ⟨P_e.out.blk.below hV (by omega)⟩
       obtain ⟨-, a_e0, a_e1, a_e2, a_e3, -, -, -, -⟩ := qe.facts
       have hvb := HB.out.trans (hV.mono (by omega))
       have hvs := hvb.size
       have g_a := Hd (G_a.out.below hvb)
       have g_b := Hd (G_b.out.below hvb)
       have g_c := Hd (G_c.out.below hvb)
       have g_e := Hd (G_e.out.below hvb)
       clear hV hK qa qb qc qe
       go_simp
       first
       | exact Below.refl _ _
       | ((with_reducible refine (H1.out V _ _ g_a.out g_b.out).mono ?_); rintro e w' ⟨v, rfl, hv, hb⟩; exact ⟨hv, hb⟩)
       | ((with_reducible refine (H2.out V _ _ g_c.out g_e.out).mono ?_); rintro e w' ⟨v, rfl, hv, hb⟩; exact ⟨hv, hb⟩))
    | (intro V hV hK h1 h2
       have qa : Quad V (w.heap.size) _ _ _ _ := ⟨P_a.out.blk.below hV (by omega)⟩
       obtain ⟨-, a_a0, a_a1, a_a2, a_a3, -, -, -, -⟩ := qa.facts
       have qb : Quad V (w.heap.size + 1) _ _ _ _ := ⟨P_b.out.blk.below hV (by omega)⟩
       obtain ⟨-, a_b0, a_b1, a_b2, a_b3, -, -, -, -⟩ := qb.facts
       have qc : Quad V (w.heap.size + 1 + 1) _ _ _ _ := ⟨P_c.out.blk.below hV (by omega)⟩
       obtain ⟨-, a_c0, a_c1, a_c2, a_c3, -, -, -, -⟩ := qc.facts
       have qe : Quad V (w.heap.size + 1 + 1 + 1) _ _ _ _ := ⟨P_e.out.blk.below hV (by omega)⟩
       obtain ⟨-, a_e0, a_e1, a_e2, a_e3, -, -, -, -⟩ := qe.facts
       have hvb := HB.out.trans (hV.mono (by omega))
       have hvs := hvb.size
       have g_a := Hd (G_a.out.below hvb)
       have g_b := Hd (G_b.out.below hvb)
       have g_c := Hd (G_c.out.below hvb)
       have g_e := Hd (G_e.out.below hvb)
       clear hV hK qa qb qc qe
       go_simp
       ((with_reducible refine (H3.out V _ _ h1.at_ h2.at_).mono ?_); rintro e w' ⟨v, rfl, hv, hb⟩; exact ⟨hv, hb⟩))
    | exact fun _ _ _ (h : FracIn _ _ _ _ _) => h.cells
  · simp [EndF, FactsF, freeAct, fill, pairs]
    intro u1 u2 u3 V hV hK h1 h2 h3 bq _ _ _
    have HF := Hd h3
    obtain ⟨A6, c6, A7, c7, rfl, -⟩ := h3.form
    simp [setAll, Value.cells] at bq
    have k0 := bq.cell 0
    have k1 := bq.cell 1
    have k2 := bq.cell 2
    have k3 := bq.cell 3
    simp at k0 k1 k2 k3
    have HB9 := Hd (HB.out.trans (hV.mono (by omega)))
    clear h1 h2 h3 hV hK bq
    go_wp2_with fail
    exact bodyPost_ret (by simp [results, Tryz.results35, go_sem, k0, k1, k2, k3]) rfl ⟨_, rfl, HF.out, HB9.out⟩

theorem rpair_i {n d m f p q r s p1 p2 q1 q2 N D : Int} (C1 : OpI 67 n d m f p1 p2) (C2 : OpI 67 p q r s q1 q2) (C3 : OpI 66 p1 p2 q1 q2 N D) : PairI 35 n d m f p q r s N D := fun V v1 v2 v3 v4 g1 g2 g3 g4 => rpair_w C1 C2 C3 V v1 v2 v3 v4 g1 g2 g3 g4

theorem rdet_w {n d m f p q r s p1 p2 q1 q2 N D : Int} (C1 : OpI 67 n d r s p1 p2) (C2 : OpI 67 m f p q q1 q2) (C3 : OpI 72 p1 p2 q1 q2 N D) (w : World) (v_a v_b v_c v_e : Value) (g_a : FracAt w v_a n d) (g_b : FracAt w v_b m f) (g_c : FracAt w v_c p q) (g_e : FracAt w v_e r s)  :
    Calls Tryz.prog 42 #[v_a, v_b, v_c, v_e] w (RetFracIn w N D) := by
  obtain ⟨Aa1, ca1, Aa2, ca2, rfl, -⟩ := g_a.form
  obtain ⟨Ab1, cb1, Ab2, cb2, rfl, -⟩ := g_b.form
  obtain ⟨Ac1, cc1, Ac2, cc2, rfl, -⟩ := g_c.form
  obtain ⟨Ae1, ce1, Ae2, ce2, rfl, -⟩ := g_e.form
  have H1 := Hd C1
  have H2 := Hd C2
  have H3 := Hd C3
  clear C1 C2 C3
  have G_a := Hd g_a
  have G_b := Hd g_b
  have G_c := Hd g_c
  have G_e := Hd g_e
  clear g_a g_b g_c g_e
  go_enter Tryz.func42, Tryz.ntmps42
  go_upto_region 1 with fail
  refine boxes5 (P := fun W => Code.wp _ _ _ _ W) fun W p0 p1 p2 p3 p4 b0 => ?_
  have P_a := Hd (Quad.mk p0)
  have P_b := Hd (Quad.mk p1)
  have P_c := Hd (Quad.mk p2)
  have P_e := Hd (Quad.mk p3)
  have PR := Hd (Quad.mk p4)
  have HB := Hd b0
  clear b0 p0 p1 p2 p3 p4
  have hsz := PR.out.blk.lt
  go_wp2_with fail
  refine wp_region_free [.val (.agg #[.bool (decide (n < 0)), .slice Aa1 (natL n.natAbs).length ca1, .bool (decide (d < 0)), .slice Aa2 (natL d.natAbs).length ca2]) [], .val (.agg #[.bool (decide (r < 0)), .slice Ae1 (natL r.natAbs).length ce1, .bool (decide (s < 0)), .slice Ae2 (natL s.natAbs).length ce2]) [], .any false (fun u V => FracIn V 0 u p1 p2) [], .val (.agg #[.bool (decide (m < 0)), .slice Ab1 (natL m.natAbs).length cb1, .bool (decide (f < 0)), .slice Ab2 (natL f.natAbs).length cb2]) [], .val (.agg #[.bool (decide (p < 0)), .slice Ac1 (natL p.natAbs).length cc1, .bool (decide (q < 0)), .slice Ac2 (natL q.natAbs).length cc2]) [], .any false (fun u V => FracIn V 0 u q1 q2) [], .any false (fun u V => FracIn V 0 u N D) [2, 5], .old (w.heap.size + 1 + 1 + 1 + 1) 27 #[.bool false, .slice none 0 0, .bool false, .slice none 0 0] 0 4 6 []] (w.heap.size + 1 + 1 + 1 + 1) W [27] (fun _ _ => False) _ mixedOrders2 (by omega) (Below.refl _ _) (KeptV.refl _ _ _) rfl (by kernel_rfl) (by kernel_rfl) (by kernel_rfl) (by kernel_rfl) (by kernel_rfl) (by kernel_rfl) (by kernel_rfl) (by kernel_rfl) rfl (by simp [oldsF]) ?_ ?_ ?_ ?_
  · simp only [StableF, and_true]
    exact ⟨fun u V V' h k => h.kept k (by decide), fun u V V' h k => h.kept k (by decide), fun u V V' h k => h.kept k (by decide)⟩
  · simp only [OldsF, and_true]
    exact ⟨Nat.le_refl _, PR.out.blk.lt, PR.out.blk, by simp⟩
  · simp (maxSteps := 4000000) [StepsF, DepF, freeAct, fill, pairs]
    repeat' (first | apply And.intro | (intro (u : Value)) | (intro (u : Nat)))
    all_goals try exact ⟨_, _, _, rfl, rfl, rfl, rfl, fracInfo⟩
    all_goals first
    | (intro V hV hK
       have qa : Quad V (w.heap.size) _ _ _ _ := ⟨P_a.out.blk.below hV (by omega)⟩
       obtain ⟨-, a_a0, a_a1, a_a2, a_a3, -, -, -, -⟩ := qa.facts
       have qb : Quad V (w.heap.size + 1) _ _ _ _ := ⟨P_b.out.blk.below hV (by omega)⟩
       obtain ⟨-, a_b0, a_b1, a_b2, a_b3, -, -, -, -⟩ := qb.facts
       have qc : Quad V (w.heap.size + 1 + 1) _ _ _ _ := ⟨P_c.out.blk.below hV (by omega)⟩
       obtain ⟨-, a_c0, a_c1, a_c2, a_c3, -, -, -, -⟩ := qc.facts
       have qe : Quad V (w.heap.size + 1 + 1 + 1) _ _ _ _ := ⟨P_e.out.blk.below hV (by omega)⟩
       obtain ⟨-, a_e0, a_e1, a_e2, a_e3, -, -, -, -⟩ := qe.facts
       have hvb := HB.out.trans (hV.mono (by omega))
       have hvs := hvb.size
       have g_a := Hd (G_a.out.below hvb)
       have g_b := Hd (G_b.out.below hvb)
       have g_c := Hd (G_c.out.below hvb)
       have g_e := Hd (G_e.out.below hvb)
       clear hV hK qa qb qc qe
       go_simp
       first
       | exact Below.refl _ _
       | ((with_reducible refine (H1.out V _ _ g_a.out g_e.out).mono ?_); rintro e w' ⟨v, rfl, hv, hb⟩; exact ⟨hv, hb⟩)
       | ((with_reducible refine (H2.out V _ _ g_b.out g_c.out).mono ?_); rintro e w' ⟨v, rfl, hv, hb⟩; exact ⟨hv, hb⟩))
    | (intro V hV hK h1 h2
       have qa : Quad V (w.heap.size) _ _ _ _ := ⟨P_a.out.blk.below hV (by omega)⟩
       obtain ⟨-, a_a0, a_a1, a_a2, a_a3, -, -, -, -⟩ := qa.facts
       have qb : Quad V (w.heap.size + 1) _ _ _ _ := ⟨P_b.out.blk.below hV (by omega)⟩
       obtain ⟨-, a_b0, a_b1, a_b2, a_b3, -, -, -, -⟩ := qb.facts
       have qc : Quad V (w.heap.size + 1 + 1) _ _ _ _ := ⟨P_c.out.blk.below hV (by omega)⟩
       obtain ⟨-, a_c0, a_c1, a_c2, a_c3, -, -, -, -⟩ := qc.facts
       have qe : Quad V (w.heap.size + 1 + 1 + 1) _ _ _ _ := ⟨P_e.out.blk.below hV (by omega)⟩
       obtain ⟨-, a_e0, a_e1, a_e2, a_e3, -, -, -, -⟩ := qe.facts
       have hvb := HB.out.trans (hV.mono (by omega))
       have hvs := hvb.size
       have g_a := Hd (G_a.out.below hvb)
       have g_b := Hd (G_b.out.below hvb)
       have g_c := Hd (G_c.out.below hvb)
       have g_e := Hd (G_e.out.below hvb)
       clear hV hK qa qb qc qe
       go_simp
       ((with_reducible refine (H3.out V _ _ h1.at_ h2.at_).mono ?_); rintro e w' ⟨v, rfl, hv, hb⟩; exact ⟨hv, hb⟩))
    | exact fun _ _ _ (h : FracIn _ _ _ _ _) => h.cells
  · simp [EndF, FactsF, freeAct, fill, pairs]
    intro u1 u2 u3 V hV hK h1 h2 h3 bq _ _ _
    have HF := Hd h3
    obtain ⟨A6, c6, A7, c7, rfl, -⟩ := h3.form
    simp [setAll, Value.cells] at bq
    have k0 := bq.cell 0
    have k1 := bq.cell 1
    have k2 := bq.cell 2
    have k3 := bq.cell 3
    simp at k0 k1 k2 k3
    have HB9 := Hd (HB.out.trans (hV.mono (by omega)))
    clear h1 h2 h3 hV hK bq
    go_wp2_with fail
    exact bodyPost_ret (by simp [results, Tryz.results42, go_sem, k0, k1, k2, k3]) rfl ⟨_, rfl, HF.out, HB9.out⟩

theorem rdet_i {n d m f p q r s p1 p2 q1 q2 N D : Int} (C1 : OpI 67 n d r s p1 p2) (C2 : OpI 67 m f p q q1 q2) (C3 : OpI 72 p1 p2 q1 q2 N D) : PairI 42 n d m f p q r s N D := fun V v1 v2 v3 v4 g1 g2 g3 g4 => rdet_w C1 C2 C3 V v1 v2 v3 v4 g1 g2 g3 g4

theorem matrix_w {n1 d1 n2 d2 n3 d3 n4 d4 : Int} {Am1 Am2 Am3 Am4 Am5 Am6 Am7 Am8 : Option Addr} {cm1 cm2 cm3 cm4 cm5 cm6 cm7 cm8 : Nat} (w : World) :
    Calls Tryz.prog 65 #[.agg #[.bool (decide (n1 < 0)), .slice Am1 (natL n1.natAbs).length cm1, .bool (decide (d1 < 0)), .slice Am2 (natL d1.natAbs).length cm2, .bool (decide (n2 < 0)), .slice Am3 (natL n2.natAbs).length cm3, .bool (decide (d2 < 0)), .slice Am4 (natL d2.natAbs).length cm4, .bool (decide (n3 < 0)), .slice Am5 (natL n3.natAbs).length cm5, .bool (decide (d3 < 0)), .slice Am6 (natL d3.natAbs).length cm6, .bool (decide (n4 < 0)), .slice Am7 (natL n4.natAbs).length cm7, .bool (decide (d4 < 0)), .slice Am8 (natL d4.natAbs).length cm8]] w fun e w' => e = .returned (.agg #[.bool (decide (n1 < 0)), .slice Am1 (natL n1.natAbs).length cm1, .bool (decide (d1 < 0)), .slice Am2 (natL d1.natAbs).length cm2, .bool (decide (n2 < 0)), .slice Am3 (natL n2.natAbs).length cm3, .bool (decide (d2 < 0)), .slice Am4 (natL d2.natAbs).length cm4, .bool (decide (n3 < 0)), .slice Am5 (natL n3.natAbs).length cm5, .bool (decide (d3 < 0)), .slice Am6 (natL d3.natAbs).length cm6, .bool (decide (n4 < 0)), .slice Am7 (natL n4.natAbs).length cm7, .bool (decide (d4 < 0)), .slice Am8 (natL d4.natAbs).length cm8]) ∧ Below w.heap.size w w' := by
  go_enter Tryz.func65, Tryz.ntmps65
  go_upto_region 1 with fail
  refine boxes2 (P := fun W => Code.wp _ _ _ _ W) fun W p0 p1 b0 => ?_
  have PR := Hd (Hex.mk p1)
  have HB := Hd b0
  obtain ⟨-, a0, a1, a2, a3, a4, a5, a6, a7, a8, a9, a10, a11, a12, a13, a14, a15⟩ := (Hex.mk p0).facts
  clear p0 p1 b0
  go_wp2_with (refine wpList_store_N rfl 38 _ _ (by rfl) (by rfl) _ (.agg #[.bool (decide (n1 < 0)), .slice Am1 (natL n1.natAbs).length cm1, .bool (decide (d1 < 0)), .slice Am2 (natL d1.natAbs).length cm2, .bool (decide (n2 < 0)), .slice Am3 (natL n2.natAbs).length cm3, .bool (decide (d2 < 0)), .slice Am4 (natL d2.natAbs).length cm4, .bool (decide (n3 < 0)), .slice Am5 (natL n3.natAbs).length cm5, .bool (decide (d3 < 0)), .slice Am6 (natL d3.natAbs).length cm6, .bool (decide (n4 < 0)), .slice Am7 (natL n4.natAbs).length cm7, .bool (decide (d4 < 0)), .slice Am8 (natL d4.natAbs).length cm8]) _ 16 (by rfl) (by rfl) PR.out.blk rfl ⟨rfl, by simp [Value.oneCell', Value.cells]⟩ matInfo ?_; intro w9 hput)
  have HB9 := Hd (hput.below HB.out (by omega))
  have k9 := hput.blk
  simp [Value.cells] at k9
  exact bodyPost_ret (results_cell_row rfl _ _ (w.heap.size + 1) _ _ _ _ (by rfl) k9 Tryz.underlying38 rfl matInfo) rfl ⟨rfl, HB9.out⟩

theorem rcheck_w {n1 d1 n2 d2 n3 d3 n4 d4 N D o1 o2 : Int} (F1 : Fine n1 d1) (F2 : Fine n2 d2) (F3 : Fine n3 d3) (F4 : Fine n4 d4) (C1 : PairI 42 n1 d1 n2 d2 n3 d3 n4 d4 N D) (C2 : OpI0 43 o1 o2) (C3 : ∀ (V : World) (v1 v2 : Value), FracAt V v1 N D → FracAt V v2 o1 o2 → Calls Tryz.prog 41 #[v1, v2] V fun e w' => e = .returned (.int .i64 0) ∧ Below V.heap.size V w') (w : World) (v_m : Value) (g_m : MatAt w v_m n1 d1 n2 d2 n3 d3 n4 d4)  :
    Calls Tryz.prog 17 #[v_m] w fun e w' => e = .returned (.int .i64 0) ∧ Below w.heap.size w w' := by
  obtain ⟨Am1, cm1, Am2, cm2, Am3, cm3, Am4, cm4, Am5, cm5, Am6, cm6, Am7, cm7, Am8, cm8, rfl, -⟩ := g_m.form
  have H1 := Hd C1
  have H2 := Hd C2
  have H3 := Hd C3
  clear C1 C2 C3
  have HFI := Hd (show ∀ z ∈ [(n1, d1), (n2, d2), (n3, d3), (n4, d4)], Fine z.1 z.2 from by simp only [List.mem_cons, List.not_mem_nil, or_false]; rintro z (rfl | rfl | rfl | rfl) <;> assumption)
  clear F1 F2 F3 F4
  have G_m := Hd g_m
  clear g_m
  go_enter Tryz.func17, Tryz.ntmps17
  go_upto_region 1 with fail
  refine boxes1 (P := fun W => Code.wp _ _ _ _ W) fun W p0 b0 => ?_
  have P_m := Hd (Hex.mk p0)
  have HB := Hd b0
  clear b0 p0
  obtain ⟨-, a_m0, a_m1, a_m2, a_m3, a_m4, a_m5, a_m6, a_m7, a_m8, a_m9, a_m10, a_m11, a_m12, a_m13, a_m14, a_m15⟩ := P_m.out.facts
  go_wp2_with fail
  refine boxes1 (P := fun V => Calls _ _ _ V _) fun V1 hq ha => ?_
  clear a_m0 a_m1 a_m2 a_m3 a_m4 a_m5 a_m6 a_m7 a_m8 a_m9 a_m10 a_m11 a_m12 a_m13 a_m14 a_m15
  have gm := (G_m.out.below HB.out).below ha
  have hfa : FA V1 (.slice (some ⟨W.heap.size, 0, none⟩) 4 4) [(n1, d1), (n2, d2), (n3, d3), (n4, d4)] := ⟨_, 4, _, [⟨decide (n1 < 0), Am1, (natL n1.natAbs).length, cm1, decide (d1 < 0), Am2, (natL d1.natAbs).length, cm2⟩, ⟨decide (n2 < 0), Am3, (natL n2.natAbs).length, cm3, decide (d2 < 0), Am4, (natL d2.natAbs).length, cm4⟩, ⟨decide (n3 < 0), Am5, (natL n3.natAbs).length, cm5, decide (d3 < 0), Am6, (natL d3.natAbs).length, cm6⟩, ⟨decide (n4 < 0), Am7, (natL n4.natAbs).length, cm7, decide (d4 < 0), Am8, (natL d4.natAbs).length, cm8⟩], rfl, hq, List.prefix_refl _, ⟨gm.fa, gm.fb, gm.fc, gm.fd, trivial⟩, by simp⟩
  refine (hfa.checks HFI.out).mono ?_
  rintro e wx0 ⟨rfl, hc⟩
  have hb := ha.trans (hc.mono ha.size)
  have P_m := Hd (P_m.out.below hb)
  have HB := Hd (belowTo HB.out hb)
  clear hb ha hc hq gm hfa
  obtain ⟨-, a_m0, a_m1, a_m2, a_m3, a_m4, a_m5, a_m6, a_m7, a_m8, a_m9, a_m10, a_m11, a_m12, a_m13, a_m14, a_m15⟩ := P_m.out.facts
  go_wp2_with fail
  have gm := G_m.out.below HB.out
  refine (H1.out wx0 _ _ _ _ gm.fa gm.fb gm.fc gm.fd).mono ?_
  rintro e wx1 ⟨v1, rfl, hv1, hb1⟩
  clear a_m0 a_m1 a_m2 a_m3 a_m4 a_m5 a_m6 a_m7 a_m8 a_m9 a_m10 a_m11 a_m12 a_m13 a_m14 a_m15
  obtain ⟨A8, c8, A9, c9, rfl, -⟩ := hv1.form
  go_wp2_with fail
  refine (H2.out wx1).mono ?_
  rintro e wx2 ⟨v2, rfl, hv2, hb2⟩
  obtain ⟨A6, c6, A7, c7, rfl, -⟩ := hv2.form
  go_wp2_with fail
  refine (H3.out wx2 _ _ (hv1.below hb2).at_ hv2.at_).mono ?_
  rintro e wx3 ⟨rfl, hb3⟩
  have HB9 := Hd (belowTo (belowTo (belowTo HB.out hb1) hb2) hb3)
  clear gm hv1 hv2 hb1 hb2 hb3
  go_wp2_with fail
  go_ret
  exact ⟨rfl, HB9.out⟩
/- Package ray: the closures of Through, Back, Cross. (Written by wip/top/genrayb.py.) -/

def RetFL (w : World) (zs : List (Int × Int)) (e : Ending) (w' : World) : Prop := ∃ v, e = .returned v ∧ FL w' v zs ∧ Below w.heap.size w w'

theorem rthrough_c {n1 d1 n2 d2 n3 d3 n4 d4 m1 f1 m2 f2 N1 D1 N2 D2 : Int} {Am1 Am2 Am3 Am4 Am5 Am6 Am7 Am8 : Option Addr} {cm1 cm2 cm3 cm4 cm5 cm6 cm7 cm8 : Nat} {Ar1 Ar2 Ar3 Ar4 : Option Addr} {cr1 cr2 cr3 cr4 : Nat} (C1 : PairI 35 n1 d1 m1 f1 n2 d2 m2 f2 N1 D1) (C2 : PairI 35 n3 d3 m1 f1 n4 d4 m2 f2 N2 D2) (w : World) {bm : Nat} {br : Nat} (b_m : Hex w bm 38 (.bool (decide (n1 < 0))) (.slice Am1 (natL n1.natAbs).length cm1) (.bool (decide (d1 < 0))) (.slice Am2 (natL d1.natAbs).length cm2) (.bool (decide (n2 < 0))) (.slice Am3 (natL n2.natAbs).length cm3) (.bool (decide (d2 < 0))) (.slice Am4 (natL d2.natAbs).length cm4) (.bool (decide (n3 < 0))) (.slice Am5 (natL n3.natAbs).length cm5) (.bool (decide (d3 < 0))) (.slice Am6 (natL d3.natAbs).length cm6) (.bool (decide (n4 < 0))) (.slice Am7 (natL n4.natAbs).length cm7) (.bool (decide (d4 < 0))) (.slice Am8 (natL d4.natAbs).length cm8)) (g_m : MatAt w (.agg #[.bool (decide (n1 < 0)), .slice Am1 (natL n1.natAbs).length cm1, .bool (decide (d1 < 0)), .slice Am2 (natL d1.natAbs).length cm2, .bool (decide (n2 < 0)), .slice Am3 (natL n2.natAbs).length cm3, .bool (decide (d2 < 0)), .slice Am4 (natL d2.natAbs).length cm4, .bool (decide (n3 < 0)), .slice Am5 (natL n3.natAbs).length cm5, .bool (decide (d3 < 0)), .slice Am6 (natL d3.natAbs).length cm6, .bool (decide (n4 < 0)), .slice Am7 (natL n4.natAbs).length cm7, .bool (decide (d4 < 0)), .slice Am8 (natL d4.natAbs).length cm8]) n1 d1 n2 d2 n3 d3 n4 d4) (b_r : Oct w br 29 (.bool (decide (m1 < 0))) (.slice Ar1 (natL m1.natAbs).length cr1) (.bool (decide (f1 < 0))) (.slice Ar2 (natL f1.natAbs).length cr2) (.bool (decide (m2 < 0))) (.slice Ar3 (natL m2.natAbs).length cr3) (.bool (decide (f2 < 0))) (.slice Ar4 (natL f2.natAbs).length cr4)) (g_r : GaussAt w (.agg #[.bool (decide (m1 < 0)), .slice Ar1 (natL m1.natAbs).length cr1, .bool (decide (f1 < 0)), .slice Ar2 (natL f1.natAbs).length cr2, .bool (decide (m2 < 0)), .slice Ar3 (natL m2.natAbs).length cr3, .bool (decide (f2 < 0)), .slice Ar4 (natL f2.natAbs).length cr4]) m1 f1 m2 f2) :
    Calls Tryz.prog 39 #[.pointer (some ⟨bm, 0, none⟩), .pointer (some ⟨br, 0, none⟩)] w (RetFL w [(N1, D1), (N2, D2)]) := by
  have H1 := Hd C1
  have H2 := Hd C2
  clear C1 C2
  have G_m := Hd g_m
  have P_m := Hd b_m
  have G_r := Hd g_r
  have P_r := Hd b_r
  clear g_m b_m g_r b_r
  have HB := Hd (Below.refl w.heap.size w)
  go_enter Tryz.func39, Tryz.ntmps39
  go_wp2_with fail
  refine wp_region_free [.val (.pointer (some ⟨bm, 0, none⟩)) [], .val (.agg #[.bool (decide (n1 < 0)), .slice Am1 (natL n1.natAbs).length cm1, .bool (decide (d1 < 0)), .slice Am2 (natL d1.natAbs).length cm2]) [], .val (.pointer (some ⟨br, 0, none⟩)) [], .val (.agg #[.bool (decide (m1 < 0)), .slice Ar1 (natL m1.natAbs).length cr1, .bool (decide (f1 < 0)), .slice Ar2 (natL f1.natAbs).length cr2]) [], .val (.pointer (some ⟨bm, 4, none⟩)) [], .val (.agg #[.bool (decide (n2 < 0)), .slice Am3 (natL n2.natAbs).length cm3, .bool (decide (d2 < 0)), .slice Am4 (natL d2.natAbs).length cm4]) [], .val (.pointer (some ⟨br, 4, none⟩)) [], .val (.agg #[.bool (decide (m2 < 0)), .slice Ar3 (natL m2.natAbs).length cr3, .bool (decide (f2 < 0)), .slice Ar4 (natL f2.natAbs).length cr4]) [], .any false (fun u V => FracIn V 0 u N1 D1) [], .val (.pointer (some ⟨bm, 8, none⟩)) [], .val (.agg #[.bool (decide (n3 < 0)), .slice Am5 (natL n3.natAbs).length cm5, .bool (decide (d3 < 0)), .slice Am6 (natL d3.natAbs).length cm6]) [], .val (.pointer (some ⟨br, 0, none⟩)) [], .val (.agg #[.bool (decide (m1 < 0)), .slice Ar1 (natL m1.natAbs).length cr1, .bool (decide (f1 < 0)), .slice Ar2 (natL f1.natAbs).length cr2]) [], .val (.pointer (some ⟨bm, 12, none⟩)) [], .val (.agg #[.bool (decide (n4 < 0)), .slice Am7 (natL n4.natAbs).length cm7, .bool (decide (d4 < 0)), .slice Am8 (natL d4.natAbs).length cm8]) [], .val (.pointer (some ⟨br, 4, none⟩)) [], .val (.agg #[.bool (decide (m2 < 0)), .slice Ar3 (natL m2.natAbs).length cr3, .bool (decide (f2 < 0)), .slice Ar4 (natL f2.natAbs).length cr4]) [], .any false (fun u V => FracIn V 0 u N2 D2) [], .any false (fun u V => FL V u [(N1, D1), (N2, D2)]) [8, 17], .any false (fun u V => FL V u [(N1, D1), (N2, D2)]) [18]] w.heap.size w [] (fun _ _ => False) _ mixedOrders2 (Nat.le_refl _) (Below.refl _ _) (KeptV.refl _ _ _) rfl (by kernel_rfl) (by kernel_rfl) (by kernel_rfl) (by kernel_rfl) (by kernel_rfl) (by kernel_rfl) (by kernel_rfl) (by kernel_rfl) rfl (by simp [oldsF]) ?_ ?_ ?_ ?_
  · simp only [StableF, and_true]
    exact ⟨fun u V V' h k => h.kept k (by decide), fun u V V' h k => h.kept k (by decide), fun u V V' h k => h.kept k (by decide) (by decide), fun u V V' h k => h.kept k (by decide) (by decide)⟩
  · simp only [OldsF]
  · simp (maxSteps := 4000000) [StepsF, DepF, freeAct, fill, pairs]
    repeat' (first | apply And.intro | (intro (u : Value)) | (intro (u : Nat)))
    all_goals first
    | (intro V hV hK
       have hs_m := P_m.out.blk.lt
       have hs_r := P_r.out.blk.lt
       have qm : Hex V (bm) _ _ _ _ _ _ _ _ _ _ _ _ _ _ _ _ _ := ⟨P_m.out.blk.below hV (by omega)⟩
       obtain ⟨-, a_m0, a_m1, a_m2, a_m3, a_m4, a_m5, a_m6, a_m7, a_m8, a_m9, a_m10, a_m11, a_m12, a_m13, a_m14, a_m15⟩ := qm.facts
       have qr : Oct V (br) _ _ _ _ _ _ _ _ _ := ⟨P_r.out.blk.below hV (by omega)⟩
       obtain ⟨-, a_r0, a_r1, a_r2, a_r3, a_r4, a_r5, a_r6, a_r7⟩ := qr.facts
       have hvb := HB.out.trans (hV.mono (by omega))
       have hvs := hvb.size
       have g_m := Hd (G_m.out.below hvb)
       have g_r := Hd (G_r.out.below hvb)
       clear hV hK qm qr
       go_simp
       first
       | exact Below.refl _ _
       | ((with_reducible refine (H1.out V _ _ _ _ g_m.out.fa g_r.out.re g_m.out.fb g_r.out.im).mono ?_); rintro e w' ⟨v, rfl, hv, hb⟩; exact ⟨hv, hb⟩)
       | ((with_reducible refine (H2.out V _ _ _ _ g_m.out.fc g_r.out.re g_m.out.fd g_r.out.im).mono ?_); rintro e w' ⟨v, rfl, hv, hb⟩; exact ⟨hv, hb⟩))
    | (intro V hV hK h1 h2
       obtain ⟨A1, c1, B1, e1, rfl, -⟩ := h1.form
       obtain ⟨A2, c2, B2, e2, rfl, -⟩ := h2.form
       have hbv := (Below.refl V.heap.size V)
       clear hV hK
       go_simp
       exact ⟨⟨V.heap.size, 2, _, [⟨_, A1, _, c1, _, B1, _, e1⟩, ⟨_, A2, _, c2, _, B2, _, e2⟩], rfl, Blk.new V _ _, List.prefix_refl _, ⟨h1.below (hbv.alloc (Nat.le_refl _) _), h2.below (hbv.alloc (Nat.le_refl _) _), trivial⟩, by simp⟩, hbv.alloc (Nat.le_refl _) _⟩)
    | (intro V hV hK h1
       obtain ⟨g9, c9, cs9, l9, rfl, -⟩ := h1.form
       clear hV hK
       go_simp
       first
       | exact Below.refl _ _
       | exact ⟨h1, Below.refl _ _⟩)
  · simp [EndF, FactsF, freeAct, fill, pairs]
    intro u1 u2 u3 u4 V1 hV hK h1 h2 h3 h4 _ _ _
    obtain ⟨g9, c9, cs9, l9, rfl, -⟩ := h4.form
    have HF := Hd h4
    have HB9 := Hd (HB.out.trans (hV.mono HB.out.size))
    clear hV hK h1 h2 h3 h4
    go_wp2_with fail
    go_ret
    exact ⟨_, rfl, HF.out, HB9.out⟩

/- Package ray: the keeper. (Written by wip/top/genrayc.py.) -/

theorem below_same {W w : World} {B b : Nat} {T : TypeId} {v : Value} (h : Below B W w) (hb : Blk w b T #[v]) : Below B W (w.setCell ⟨b, 0, none⟩ v) :=
  ⟨h.os, h.tape, h.output, by simpa using h.size, fun g hg => by rw [heap_same hb]; exact h.block g hg⟩

theorem kmatrix_w {n1 d1 n2 d2 n3 d3 n4 d4 : Int} (C1 : ∀ (V : World) (v : Value), MatAt V v n1 d1 n2 d2 n3 d3 n4 d4 → Calls Tryz.prog 17 #[v] V fun e w' => e = .returned (.int .i64 0) ∧ Below V.heap.size V w') (w : World) {kk : Nat} (hk : Cell1 w kk 74 (.int .i64 0)) (v : Value) (g : MatAt w v n1 d1 n2 d2 n3 d3 n4 d4) :
    Calls Tryz.prog 31 #[.pointer (some ⟨kk, 0, none⟩), v] w fun e w' => e = .returned (.tuple #[]) ∧ Below w.heap.size w w' := by
  obtain ⟨Am1, cm1, Am2, cm2, Am3, cm3, Am4, cm4, Am5, cm5, Am6, cm6, Am7, cm7, Am8, cm8, rfl, -⟩ := g.form
  have H1 := Hd C1
  have G := Hd g
  have K := Hd hk
  clear C1 g hk
  go_enter Tryz.func31, Tryz.ntmps31
  go_upto_region 1 with fail
  refine boxes1 (P := fun W => Code.wp _ _ _ _ W) fun W p0 b0 => ?_
  have PM := Hd (Hex.mk p0)
  have HB := Hd b0
  have K := Hd (K.out.below b0)
  have G := Hd (G.out.below b0)
  clear p0 b0
  have k0 := K.out.blk.cell 0
  simp at k0
  go_wp2_with (refine wpList_load_M rfl _ (by rfl) _ (by rfl) _ _ PM.out.blk rfl ?_)
  refine (H1.out W _ G.out).mono ?_
  rintro e w1 ⟨rfl, hb⟩
  have K := Hd (K.out.below hb)
  have HB := Hd (belowTo HB.out hb)
  clear hb k0
  have k1 := K.out.blk.cell 0
  simp at k1
  have k2 := K.out.blk.frozen 0
  go_wp2_with fail
  have H9 := Hd (below_same HB.out K.out.blk)
  exact bodyPost_end (v := .tuple #[]) (by simp [results, Tryz.results31, go_sem]) rfl ⟨rfl, H9.out⟩

theorem kray_w {m1 f1 m2 f2 : Int} (F1 : Fine m1 f1) (F2 : Fine m2 f2) (w : World) {kk : Nat} (hk : Cell1 w kk 74 (.int .i64 0)) (v : Value) (g : GaussAt w v m1 f1 m2 f2) :
    Calls Tryz.prog 37 #[.pointer (some ⟨kk, 0, none⟩), v] w fun e w' => e = .returned (.tuple #[]) ∧ Below w.heap.size w w' := by
  obtain ⟨Ar1, cr1, Ar2, cr2, Ar3, cr3, Ar4, cr4, rfl, -⟩ := g.form
  have HFI := Hd (show ∀ z ∈ [(m1, f1), (m2, f2)], Fine z.1 z.2 from by simp only [List.mem_cons, List.not_mem_nil, or_false]; rintro z (rfl | rfl) <;> assumption)
  have G := Hd g
  have K := Hd hk
  clear F1 F2 g hk
  go_enter Tryz.func37, Tryz.ntmps37
  go_upto_region 1 with fail
  refine boxes1 (P := fun W => Code.wp _ _ _ _ W) fun W p0 b0 => ?_
  have HB := Hd b0
  have K := Hd (K.out.below b0)
  have G := Hd (G.out.below b0)
  obtain ⟨-, x0, x1, x2, x3, x4, x5, x6, x7⟩ := (Oct.mk p0).facts
  have k0 := K.out.blk.cell 0
  simp at k0
  clear p0 b0
  go_wp2_with fail
  refine boxes1 (P := fun V => Calls _ _ _ V _) fun V1 hq ha => ?_
  have gm := G.out.below ha
  have hfa : FA V1 (.slice (some ⟨W.heap.size, 0, none⟩) 2 2) [(m1, f1), (m2, f2)] := ⟨_, 2, _, [⟨decide (m1 < 0), Ar1, (natL m1.natAbs).length, cr1, decide (f1 < 0), Ar2, (natL f1.natAbs).length, cr2⟩, ⟨decide (m2 < 0), Ar3, (natL m2.natAbs).length, cr3, decide (f2 < 0), Ar4, (natL f2.natAbs).length, cr4⟩], rfl, hq, List.prefix_refl _, ⟨gm.re, gm.im, trivial⟩, by simp⟩
  refine (hfa.checks HFI.out).mono ?_
  rintro e w1 ⟨rfl, hc⟩
  have H9 := Hd (belowTo HB.out (ha.trans (hc.mono ha.size)))
  clear gm hfa hc ha hq k0 x0 x1 x2 x3 x4 x5 x6 x7
  go_wp2_with fail
  exact bodyPost_end (v := .tuple #[]) (by simp [results, Tryz.results37, go_sem]) rfl ⟨rfl, H9.out⟩

theorem answer_through_false {zs : List (Int × Int)} {p0 p1 : Value} (hl : longZ zs = false) (w : World) {kk : Nat} (hk : Cell1 w kk 74 (.int .i64 0)) (C1 : Calls Tryz.prog 39 #[p0, p1] w (RetFL w zs)) :
    Calls Tryz.prog 38 #[.pointer (some ⟨kk, 0, none⟩), .func (.func 39) #[] #[p0, p1]] w (RetFL w zs) := by
  have H1 := Hd C1
  have HL := Hd hl.symm
  have K := Hd hk
  clear C1 hl hk
  have k0 := K.out.blk.cell 0
  simp at k0
  go_enter Tryz.func38, Tryz.ntmps38
  go_wp2_with fail
  refine H1.out.mono ?_
  rintro e w1 ⟨v, rfl, hv, hb⟩
  clear k0
  have K := Hd (K.out.below hb)
  have HV := Hd hv
  have HB := Hd hb
  obtain ⟨g9, c9, cs9, l9, rfl, -⟩ := hv.form
  clear hv hb
  go_wp2_with fail
  refine (HV.out.at_.answer HL.out).mono ?_
  rintro e w2 ⟨rfl, hb⟩
  have K := Hd (K.out.below hb)
  have HV := Hd (HV.out.below hb)
  have HB := Hd (belowTo HB.out hb)
  clear hb
  have k1 := K.out.blk.cell 0
  simp at k1
  have k2 := K.out.blk.frozen 0
  have HV := Hd (HV.out.below (below_same (Below.refl _ _) K.out.blk))
  have HB := Hd (below_same HB.out K.out.blk)
  go_wp2_with fail
  go_ret
  exact ⟨_, rfl, HV.out, HB.out⟩

theorem answer_through_true {zs : List (Int × Int)} {p0 p1 : Value} (hl : longZ zs = true) (w : World) {kk : Nat} (hk : Cell1 w kk 74 (.int .i64 0)) (C1 : Calls Tryz.prog 39 #[p0, p1] w (RetFL w zs)) :
    Calls Tryz.prog 38 #[.pointer (some ⟨kk, 0, none⟩), .func (.func 39) #[] #[p0, p1]] w fun e w' => e = .returned (.slice none 0 0) ∧ ∃ w1, w' = w1.setCell ⟨kk, 0, none⟩ (.int .i64 4) ∧ Below w.heap.size w w1 := by
  have H1 := Hd C1
  have HL := Hd hl.symm
  have K := Hd hk
  clear C1 hl hk
  have k0 := K.out.blk.cell 0
  simp at k0
  go_enter Tryz.func38, Tryz.ntmps38
  go_wp2_with fail
  refine H1.out.mono ?_
  rintro e w1 ⟨v, rfl, hv, hb⟩
  clear k0
  have K := Hd (K.out.below hb)
  have HV := Hd hv
  have HB := Hd hb
  obtain ⟨g9, c9, cs9, l9, rfl, -⟩ := hv.form
  clear hv hb
  go_wp2_with fail
  refine (HV.out.at_.answer HL.out).mono ?_
  rintro e w2 ⟨rfl, hb⟩
  have K := Hd (K.out.below hb)
  have HV := Hd (HV.out.below hb)
  have HB := Hd (belowTo HB.out hb)
  clear hb
  have k1 := K.out.blk.cell 0
  simp at k1
  have k2 := K.out.blk.frozen 0
  go_wp2_with fail
  go_ret
  exact ⟨rfl, w2, rfl, HB.out⟩

end Go.Proofs.YtmcnmoljliggfaaGreatDoor
