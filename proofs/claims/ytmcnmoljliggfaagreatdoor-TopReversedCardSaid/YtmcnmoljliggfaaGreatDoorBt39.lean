/- Several texts in one: BenchLawq1, RayEq2, Chain2q1, RayMq1, TopSq1. -/
import Derived.Test.YtmcnmoljliggfaaGreatDoorBt38
import Derived.Test.YtmcnmoljliggfaaGreatDoorBt32
set_option maxRecDepth 100000
set_option maxHeartbeats 8000000
/- Benches as products of matrices of rationals: cut anywhere, of determinant 1, and how many limbs their numbers have; plain. -/
namespace Go.Proofs.YtmcnmoljliggfaaGreatDoor
open Go.RowKit

theorem M2.mul_assoc (l m n : M2) : (l.mul m).mul n = l.mul (m.mul n) := by
  unfold M2.mul
  ext <;> dsimp only <;> grind
theorem M2.one_mul (m : M2) : M2.one.mul m = m := by
  unfold M2.mul M2.one
  ext <;> dsimp only <;> grind
theorem M2.mul_one (m : M2) : m.mul M2.one = m := by
  unfold M2.mul M2.one
  ext <;> dsimp only <;> grind
theorem goneM_mul : ∀ (l : List El) (m : M2), goneM m l = (goneM M2.one l).mul m
  | [], m => (M2.one_mul m).symm
  | e :: l, m => by rw [goneM, goneM, goneM_mul l (e.mat.mul m), goneM_mul l (e.mat.mul M2.one), M2.mul_one, M2.mul_assoc]
theorem benchM_app (l k : List El) : benchM (l ++ k) = (benchM k).mul (benchM l) := by
  unfold benchM
  rw [goneM_app, goneM_mul]
/- Package ray: Mul, Back, Through, Cross. (Written by wip/top/genraye.py.) -/

theorem rmul_false {n1 d1 n2 d2 n3 d3 n4 d4 x1 y1 x2 y2 x3 y3 x4 y4 N1 D1 N2 D2 N3 D3 N4 D4 : Int} (hl : longZ [(N1, D1), (N2, D2), (N3, D3), (N4, D4)] = false) (CH_m : ChkM n1 d1 n2 d2 n3 d3 n4 d4) (CH_x : ChkM x1 y1 x2 y2 x3 y3 x4 y4)  (CC : ∀ (V : World) (b0 b1 : Nat) (Am1 Am2 Am3 Am4 Am5 Am6 Am7 Am8 : Option Addr) (cm1 cm2 cm3 cm4 cm5 cm6 cm7 cm8 : Nat) (Ax1 Ax2 Ax3 Ax4 Ax5 Ax6 Ax7 Ax8 : Option Addr) (cx1 cx2 cx3 cx4 cx5 cx6 cx7 cx8 : Nat), Hex V b0 38 (.bool (decide (n1 < 0))) (.slice Am1 (natL n1.natAbs).length cm1) (.bool (decide (d1 < 0))) (.slice Am2 (natL d1.natAbs).length cm2) (.bool (decide (n2 < 0))) (.slice Am3 (natL n2.natAbs).length cm3) (.bool (decide (d2 < 0))) (.slice Am4 (natL d2.natAbs).length cm4) (.bool (decide (n3 < 0))) (.slice Am5 (natL n3.natAbs).length cm5) (.bool (decide (d3 < 0))) (.slice Am6 (natL d3.natAbs).length cm6) (.bool (decide (n4 < 0))) (.slice Am7 (natL n4.natAbs).length cm7) (.bool (decide (d4 < 0))) (.slice Am8 (natL d4.natAbs).length cm8) → MatAt V (.agg #[.bool (decide (n1 < 0)), .slice Am1 (natL n1.natAbs).length cm1, .bool (decide (d1 < 0)), .slice Am2 (natL d1.natAbs).length cm2, .bool (decide (n2 < 0)), .slice Am3 (natL n2.natAbs).length cm3, .bool (decide (d2 < 0)), .slice Am4 (natL d2.natAbs).length cm4, .bool (decide (n3 < 0)), .slice Am5 (natL n3.natAbs).length cm5, .bool (decide (d3 < 0)), .slice Am6 (natL d3.natAbs).length cm6, .bool (decide (n4 < 0)), .slice Am7 (natL n4.natAbs).length cm7, .bool (decide (d4 < 0)), .slice Am8 (natL d4.natAbs).length cm8]) n1 d1 n2 d2 n3 d3 n4 d4 → Hex V b1 38 (.bool (decide (x1 < 0))) (.slice Ax1 (natL x1.natAbs).length cx1) (.bool (decide (y1 < 0))) (.slice Ax2 (natL y1.natAbs).length cx2) (.bool (decide (x2 < 0))) (.slice Ax3 (natL x2.natAbs).length cx3) (.bool (decide (y2 < 0))) (.slice Ax4 (natL y2.natAbs).length cx4) (.bool (decide (x3 < 0))) (.slice Ax5 (natL x3.natAbs).length cx5) (.bool (decide (y3 < 0))) (.slice Ax6 (natL y3.natAbs).length cx6) (.bool (decide (x4 < 0))) (.slice Ax7 (natL x4.natAbs).length cx7) (.bool (decide (y4 < 0))) (.slice Ax8 (natL y4.natAbs).length cx8) → MatAt V (.agg #[.bool (decide (x1 < 0)), .slice Ax1 (natL x1.natAbs).length cx1, .bool (decide (y1 < 0)), .slice Ax2 (natL y1.natAbs).length cx2, .bool (decide (x2 < 0)), .slice Ax3 (natL x2.natAbs).length cx3, .bool (decide (y2 < 0)), .slice Ax4 (natL y2.natAbs).length cx4, .bool (decide (x3 < 0)), .slice Ax5 (natL x3.natAbs).length cx5, .bool (decide (y3 < 0)), .slice Ax6 (natL y3.natAbs).length cx6, .bool (decide (x4 < 0)), .slice Ax7 (natL x4.natAbs).length cx7, .bool (decide (y4 < 0)), .slice Ax8 (natL y4.natAbs).length cx8]) x1 y1 x2 y2 x3 y3 x4 y4 → Calls Tryz.prog 33 #[.pointer (some ⟨b0, 0, none⟩), .pointer (some ⟨b1, 0, none⟩)] V (RetFL V [(N1, D1), (N2, D2), (N3, D3), (N4, D4)])) (w : World) (v_m : Value) (g_m : MatAt w v_m n1 d1 n2 d2 n3 d3 n4 d4) (v_x : Value) (g_x : MatAt w v_x x1 y1 x2 y2 x3 y3 x4 y4) :
    Calls Tryz.prog 12 #[v_m, v_x] w (RetMatIn2 w N1 D1 N2 D2 N3 D3 N4 D4 0) := by
  have hmf : ∀ (fn : Fn) (first cap : Array Value) (w : World), (Instr.makeFunc fn first cap).run Tryz.prog w = .ok (.func fn first cap) w := fun _ _ _ _ => rfl
  obtain ⟨Am1, cm1, Am2, cm2, Am3, cm3, Am4, cm4, Am5, cm5, Am6, cm6, Am7, cm7, Am8, cm8, rfl, -⟩ := g_m.form
  have G_m := Hd g_m
  clear g_m
  obtain ⟨Ax1, cx1, Ax2, cx2, Ax3, cx3, Ax4, cx4, Ax5, cx5, Ax6, cx6, Ax7, cx7, Ax8, cx8, rfl, -⟩ := g_x.form
  have G_x := Hd g_x
  clear g_x
  have C_m := Hd CH_m
  clear CH_m
  have C_x := Hd CH_x
  clear CH_x
  have HC := Hd CC
  have HL := Hd hl
  clear CC hl
  go_enter Tryz.func12, Tryz.ntmps12
  go_upto_region 2 with fail
  refine boxes4 (P := fun W => Code.wp _ _ _ _ W) fun W q0 q1 q2 q3 b0 => ?_
  have P_m := Hd (Hex.mk q0)
  have G_m := Hd (G_m.out.below b0)
  have P_x := Hd (Hex.mk q1)
  have G_x := Hd (G_x.out.below b0)
  have PR := Hd (Hex.mk q2)
  have K := Hd (Cell1.mk q3)
  have HB := Hd b0
  clear b0 q0 q1 q2 q3
  go_wp2_with (refine wpList_load_M rfl _ (by rfl) _ (by rfl) _ _ P_m.out.blk rfl ?_)
  refine (kmatrix_w C_m.out W K.out _ G_m.out).mono ?_
  rintro e w0 ⟨rfl, hb⟩
  have P_m := Hd (P_m.out.below hb)
  have G_m := Hd (G_m.out.below hb)
  have P_x := Hd (P_x.out.below hb)
  have G_x := Hd (G_x.out.below hb)
  have PR := Hd (PR.out.below hb)
  have K := Hd (K.out.below hb)
  have HB := Hd (belowTo HB.out hb)
  clear hb
  go_wp2_with (refine wpList_load_M rfl _ (by rfl) _ (by rfl) _ _ P_x.out.blk rfl ?_)
  refine (kmatrix_w C_x.out w0 K.out _ G_x.out).mono ?_
  rintro e w1 ⟨rfl, hb⟩
  have P_m := Hd (P_m.out.below hb)
  have G_m := Hd (G_m.out.below hb)
  have P_x := Hd (P_x.out.below hb)
  have G_x := Hd (G_x.out.below hb)
  have PR := Hd (PR.out.below hb)
  have K := Hd (K.out.below hb)
  have HB := Hd (belowTo HB.out hb)
  clear hb
  go_wp2_with (rw [hmf])
  refine (as_mul_false HL.out w1 K.out (fun V hV => HC.out V _ _ _ _ _ _ _ _ _ _ _ _ _ _ _ _ _ _ _ _ _ _ _ _ _ _ _ _ _ _ _ _ _ _ (P_m.out.below hV) (G_m.out.below hV) (P_x.out.below hV) (G_x.out.below hV))).mono ?_
  rintro e wz ⟨v, rfl, hv, hb⟩
  have pr := ((PR.out.blk.below hb (by omega)) : Blk wz (w.heap.size + 1 + 1) 38 #[.bool false, .slice none 0 0, .bool false, .slice none 0 0, .bool false, .slice none 0 0, .bool false, .slice none 0 0, .bool false, .slice none 0 0, .bool false, .slice none 0 0, .bool false, .slice none 0 0, .bool false, .slice none 0 0])
  have HV := Hd hv
  have HB := Hd (HB.out.trans (hb.mono (by omega)))
  obtain ⟨A0, c0, A1, c1, A2, c2, A3, c3, A4, c4, A5, c5, A6, c6, A7, c7, rfl, -⟩ := hv.form
  have PR := Hd pr
  clear hv hb pr
  go_wp2_with (refine wpList_store_N rfl 38 _ _ (by rfl) (by rfl) _ _ _ 16 (by rfl) (by rfl) PR.out rfl HV.out.cells matInfo ?_; intro w9 hput)
  have HF := Hd (HV.out.kept (hput.kept _ (Nat.le_refl _)) (by decide))
  have HB9 := Hd (hput.below HB.out (by omega))
  have k9 := hput.blk
  simp [Value.cells] at k9
  exact bodyPost_ret (results_two rfl _ _ (w.heap.size + 1 + 1) _ _ _ _ _ (by rfl) k9 Tryz.underlying38 rfl matInfo (by rfl)) rfl ⟨_, rfl, HF.out, HB9.out⟩

/- As XChain: a value may be read from a slot that a later step writes. -/

section
variable {P : Program} {ops : Array Oper} {Q : Exit → Act → World → Prop}
theorem valAt2_of {cl : List Stp} {us : List Value} {i : Nat} {v : Value} (h : valAt2 cl us i = some v) : valAt cl us i = v := by
  unfold valAt2 at h
  unfold valAt
  cases hc : cl[i]? with
  | none => rw [hc] at h; injection h
  | some c =>
    rw [hc] at h
    cases c with
    | val u => injection h
    | step => simp only at h ⊢; rw [List.getD_eq_getElem?_getD, h]; rfl
theorem valAt2_done {cl : List Stp} {us : List Value} {i : Nat} (h : stepIs cl i = true → stepNo cl i < us.length) : valAt2 cl us i = some (valAt cl us i) := by
  unfold valAt2 valAt
  cases hc : cl[i]? with
  | none => rfl
  | some c => cases c with
    | val u => rfl
    | step =>
      have h1 := h (by simp [stepIs, hc, Stp.isStep])
      simp only
      rw [List.getD_eq_getElem?_getD, List.getElem?_eq_getElem h1]
      rfl
theorem valAt2_undone {cl : List Stp} {us : List Value} {i : Nat} (hc : stepIs cl i = true) (h : us.length ≤ stepNo cl i) : valAt2 cl us i = none := by
  unfold valAt2
  cases hx : cl[i]? with
  | none => simp [stepIs, hx] at hc
  | some c => cases c with
    | val u => simp [stepIs, hx, Stp.isStep] at hc
    | step => exact List.getElem?_eq_none h
section
variable {cl : List Stp} {a0 : Act} {R : List Value → World → Prop} {m0 m : Nat} {us : List Value} {L : Array Bool} {a : Act} {w : World}
theorem CI.eval2 {i : Nat} {o : Oper} (h : CI ops cl a0 R m0 m us L a w) (hi : ops[i]? = some o) (hun : L.getD i false = false) (hreads : readsB2 ops cl = true) (hdst : (ops.toList.filterMap (·.dst)).Nodup)
    (hroom : ∀ (i : Nat) o d, ops[i]? = some o → o.dst = some d → d < a0.tmps.size) (hp : ∀ e ∈ o.after, Region.binds .any e = true → L.getD e.on false = true)
    (us' : List Value) (hus : us' = us ∨ (stepIs cl i = false ∧ us' = [])) :
    (∀ cs b, o.op ≠ .select cs b) ∧ ∀ x ∈ o.op.operands, a.eval x = (chainAct2 ops cl a0 us').eval x := by
  have hlt : i < ops.size := (Array.getElem?_eq_some_iff.1 hi).1
  have h1 := List.all_eq_true.1 hreads i (List.mem_range.2 hlt)
  simp only [hi, Bool.and_eq_true] at h1
  obtain ⟨hsel, hops⟩ := h1
  refine ⟨fun cs b e => by rw [e] at hsel; simp at hsel, fun x hx => ?_⟩
  rw [Array.all_eq_true_iff_forall_mem] at hops
  have h2 := hops x hx
  cases x with
  | tmp t =>
    simp only [Bool.or_eq_true] at h2
    rcases h2 with h2 | h2
    · have hno : ∀ (k : Nat) ok, ops[k]? = some ok → ok.dst = some t → stepIs cl k = true ∧ L.getD k false = false := fun k ok hk hd => by
        have h3 := List.all_eq_true.1 h2 k (List.mem_range.2 (Array.getElem?_eq_some_iff.1 hk).1)
        simp only [hk, hd, bne_self_eq_false, Bool.false_or, Bool.and_eq_true, Bool.or_eq_true] at h3
        refine ⟨h3.1, ?_⟩
        cases hL : L.getD k false with
        | false => rfl
        | true =>
          have hcl := h.closed k ok hk hL
          rcases h3.2 with h4 | h4
          · obtain ⟨e, he, hb, rfl⟩ := any_edge h4
            rw [hcl e he hb] at hun
            cases hun
          · rw [reach_done h.closed 4 ok hcl h4] at hun
            cases hun
      have e1 := h.out t fun k ok hk hL hd => by
        rw [(hno k ok hk hd).2] at hL
        cases hL
      have e2 := fill_other (pairs ops fun i => valAt2 cl us' i) t a0.tmps fun p hp2 e => by
        obtain ⟨k, ok, hk, hd, hv⟩ := pairs_mem hp2
        rw [e] at hd
        obtain ⟨h5, h6⟩ := hno k ok hk hd
        have h7 : us'.length ≤ stepNo cl k := by
          rcases hus with rfl | ⟨-, rfl⟩
          · rcases Nat.lt_or_ge (stepNo cl k) us'.length with h8 | h8
            · rw [(h.steps k (Array.getElem?_eq_some_iff.1 hk).1 h5).2 h8] at h6
              cases h6
            · exact h8
          · exact Nat.zero_le _
        rw [valAt2_undone h5 h7] at hv
        cases hv
      simp [Act.eval, Array.getD_eq_getD_getElem?, chainAct2, e1, e2]
    · rw [← Array.any_toList, List.any_eq_true] at h2
      obtain ⟨e, he, h3⟩ := h2
      rw [Array.mem_toList_iff] at he
      simp only [Bool.and_eq_true, Bool.or_eq_true, beq_iff_eq] at h3
      obtain ⟨⟨hb, hd⟩, hv⟩ := h3
      cases hoe : ops[e.on]? with
      | none => simp [hoe] at hd
      | some oe =>
        simp only [hoe, Option.bind_some] at hd
        have hL := hp e he hb
        have e1 := h.inn e.on oe t hoe hL hd
        have e3 : valAt2 cl us' e.on = some (valAt cl us e.on) := by
          rcases hus with rfl | ⟨hus, -⟩
          · exact valAt2_done fun hc => (h.steps e.on (Array.getElem?_eq_some_iff.1 hoe).1 hc).1 hL
          · rcases hv with hv | hv
            · unfold valIs at hv
              unfold valAt2 valAt
              cases hc : cl[e.on]? with
              | none => simp [hc] at hv
              | some c => cases c with
                | val v => rfl
                | step => simp [hc, Stp.isStep] at hv
            · rw [hus] at hv; cases hv
        have e2 := fill_at (pairs ops fun i => valAt2 cl us' i) (pairs_nodup _ hdst) t (valAt cl us e.on) a0.tmps (hroom _ _ _ hoe hd) (pairs_has hoe hd e3)
        simp [Act.eval, Array.getD_eq_getD_getElem?, chainAct2, e1, e2]
  | _ => rfl
end

theorem wp_region_chain2 {id : Nat} {a0 : Act} {w0 : World} (cl : List Stp) (m0 m : Nat) (R : List Value → World → Prop) (af : List Value → Act) (hm : P.follows .mixedOrders = true) (hlen : cl.length = ops.size)
    (hback : (ops.toList.zipIdx.all fun (o, i) => o.after.all fun e => decide (e.on < i)) = true) (hguard : (ops.all fun o => o.guard.isNone) = true)
    (hdst : nodupB (ops.toList.filterMap (·.dst)) = true) (hroom : (ops.toList.filterMap (·.dst)).all (fun d => decide (d < a0.tmps.size)) = true) (hreads : readsB2 ops cl = true)
    (hvald : ((List.range ops.size).all fun i => stepIs cl i || ((ops[i]?).bind (·.dst)).isSome) = true)
    (hchain : chainB ops cl m0 m = true) (hlast : lastB ops cl m = true) (haf : af = chainAct2 ops cl a0)
    (hR : ∀ us w w', us.length ≤ m0 → R us w → Below w.heap.size w w' → R us w') (h0 : R [] w0.drew)
    (hval : ValOk2 P (af []) m0 R ops.toList cl) (hstep : StepOk P af R 0 ops.toList cl)
    (hend : ∀ us w, us.length = m → R us w → Q .normal (af us) w) :
    (Code.region id ops true).wp P Q a0 w0 := by
  subst haf
  have hnd := nodupB_spec hdst
  have hdist := dst_inj hnd
  have hroom' : ∀ (i : Nat) o d, ops[i]? = some o → o.dst = some d → d < a0.tmps.size := fun i o d hi hd =>
    of_decide_eq_true (List.all_eq_true.1 hroom d (by rw [List.mem_filterMap]; exact ⟨o, Array.mem_toList_iff.2 (Array.mem_of_getElem? hi), hd⟩))
  refine wp_region_any hm (wpAny_inv (fun L a w => ∃ us, CI ops cl a0 R m0 m us L a w) hback hguard ?_ ?_ _ _ _ _ (by simp) ?_ ?_)
  · rintro L a w ⟨us, h⟩ i o hi hs hun hp
    have hlt : i < ops.size := (Array.getElem?_eq_some_iff.1 hi).1
    have hL : i < L.size := by omega
    have hun' : L.getD i false = false := by simp [hL] at hun ⊢; exact hun
    have hkeep : ∀ j, j ≠ i → (L.setIfInBounds i true).getD j false = L.getD j false := fun j hj => getD_set_ne false (Ne.symm hj)
    have hci : i < cl.length := by omega
    have hclosed : ∀ (j : Nat) oj, ops[j]? = some oj → (L.setIfInBounds i true).getD j false = true → ∀ e ∈ oj.after, Region.binds .any e = true → (L.setIfInBounds i true).getD e.on false = true := fun j oj hj hLj e he hb => by
      rw [getD_set_iff hL] at hLj ⊢
      rcases hLj with rfl | hLj
      · rw [hi] at hj; injection hj with hj; subst hj
        exact .inr (hp e he hb)
      · exact .inr (h.closed j oj hj hLj e he hb)
    cases hc : stepIs cl i with
    | false =>
      obtain ⟨v, hv⟩ : ∃ v, cl[i]? = some (.val v) := by
        cases hx : cl[i]? with
        | none => simp at hx; omega
        | some c => cases c with
          | val v => exact ⟨v, rfl⟩
          | step => simp [stepIs, hx, Stp.isStep] at hc
      have hle : us.length ≤ m0 := by
        rcases Nat.lt_or_ge m0 us.length with h1 | h1
        · rw [h.early h1 i hlt hc] at hun'; cases hun'
        · exact h1
      obtain ⟨hsel, hev⟩ := h.eval2 hi hun' hreads hnd hroom' hp [] (.inr ⟨hc, rfl⟩)
      obtain ⟨d, hd⟩ : ∃ d, o.dst = some d := by
        have := List.all_eq_true.1 hvald i (List.mem_range.2 hlt)
        simp only [hc, hi, Bool.false_or, Option.bind_some] at this
        exact Option.isSome_iff_exists.1 this
      have h1 := ValOk2.get _ _ hval i (by simpa using hi) hv us w hle h.rel
      unfold Oper.wp at h1
      rw [← execOp_congr o hsel hev] at h1
      have h2 := upon_swap (a2 := a) (Q := Q) hd (by simp only [chainAct2, fill_size]; exact hroom' i o d hi hd) h1
      refine Oper.wp_mono ?_ h2
      rintro a' w' ⟨rfl, hb⟩
      have hva : v = valAt cl us i := by unfold valAt; rw [hv]
      obtain ⟨t1, t2, t3, t4⟩ := h.tmps hi hL hun' hdist hroom' v us (fun _ _ _ _ => rfl) (.inl hva)
      refine ⟨us, t1, t2, t3, t4, fun j hj hcj => ?_, fun hm0 j hj hcj => ?_, h.count, hclosed, hR us w w' hle h.rel hb⟩
      · rw [hkeep j (fun e => by rw [e, hc] at hcj; cases hcj)]; exact h.steps j hj hcj
      · omega
    | true =>
      have hci2 : cl[i]? = some .step := by
        cases hx : cl[i]? with
        | none => simp at hx; omega
        | some c => cases c with
          | val v => simp [stepIs, hx, Stp.isStep] at hc
          | step => rfl
      have hch := List.all_eq_true.1 hchain i (List.mem_range.2 hlt)
      simp only [hc, hi, Bool.not_true, Bool.false_or, Bool.and_eq_true, Bool.or_eq_true, decide_eq_true_eq, beq_iff_eq] at hch
      obtain ⟨⟨⟨hkm, hprev⟩, hall⟩, hinj⟩ := hch
      have hge : us.length ≤ stepNo cl i := by
        rcases Nat.lt_or_ge (stepNo cl i) us.length with h1 | h1
        · rw [(h.steps i hlt hc).2 h1] at hun'; cases hun'
        · exact h1
      have hk : us.length = stepNo cl i := by
        rcases hprev with h1 | h1
        · omega
        · rw [List.any_eq_true] at h1
          obtain ⟨j, hj, h2⟩ := h1
          simp only [Bool.and_eq_true, beq_iff_eq] at h2
          obtain ⟨⟨h3, h4⟩, h5⟩ := h2
          obtain ⟨e, he, hb, rfl⟩ := any_edge h5
          have := (h.steps e.on (List.mem_range.1 hj) h3).1 (hp e he hb)
          omega
      obtain ⟨hsel, hev⟩ := h.eval2 hi hun' hreads hnd hroom' hp us (.inl rfl)
      have h1 := StepOk.get _ _ 0 hstep i (by simpa using hi) hci2 us w (by omega) h.rel
      unfold Oper.wp at h1
      rw [← execOp_congr o hsel hev] at h1
      have h2 := upon_step (a2 := a) (Q := Q) (by intro d hd; simp only [chainAct2, fill_size]; exact hroom' i o d hi hd) h1
      refine Oper.wp_mono ?_ h2
      rintro a' w' ⟨u, rfl, hr⟩
      have hua : u = valAt cl (us ++ [u]) i := by
        unfold valAt; rw [hci2]; simp [List.getD_eq_getElem?_getD, ← hk]
      have husame : ∀ (j : Nat) oj, ops[j]? = some oj → L.getD j false = true → valAt cl (us ++ [u]) j = valAt cl us j := fun j oj hj hLj =>
        valAt_more fun hcj => (h.steps j (Array.getElem?_eq_some_iff.1 hj).1 hcj).1 hLj
      obtain ⟨t1, t2, t3, t4⟩ := h.tmps hi hL hun' hdist hroom' u (us ++ [u]) husame (.inl hua)
      refine ⟨us ++ [u], t1, t2, t3, t4, fun j hj hcj => ?_, fun hm0 j hj hcj => ?_, by simp; omega, hclosed, hr⟩
      · by_cases hji : j = i
        · subst hji
          simp [hL, hk]
        · rw [hkeep j hji, h.steps j hj hcj]
          have h3 := List.all_eq_true.1 hinj j (List.mem_range.2 hj)
          simp only [hcj, Bool.not_true, Bool.false_or, Bool.or_eq_true, bne_iff_ne, ne_eq, beq_iff_eq] at h3
          have h4 := h3.resolve_right hji
          simp; omega
      · rw [hkeep j (fun e => by rw [e, hc] at hcj; cases hcj)]
        simp at hm0
        rcases hall with h3 | h3
        · exact h.early (by omega) j hj hcj
        · have h4 := List.all_eq_true.1 h3 j (List.mem_range.2 hj)
          simp only [hcj, Bool.false_or, Bool.or_eq_true] at h4
          rcases h4 with h4 | h4
          · obtain ⟨e, he, hb, rfl⟩ := any_edge h4
            exact hp e he hb
          · exact reach_done h.closed 4 o hp h4
  · rintro L a w ⟨us, h⟩ hdone
    have hum : us.length = m := by
      have := h.count
      unfold lastB at hlast
      simp only [Bool.or_eq_true, beq_iff_eq, List.any_eq_true, Bool.and_eq_true] at hlast
      rcases hlast with h1 | ⟨i, h1, h2, h3⟩
      · omega
      · have := (h.steps i (List.mem_range.1 h1) h2).1 (hdone i (List.mem_range.1 h1))
        omega
    have hact : a = chainAct2 ops cl a0 us := by
      obtain ⟨t, d⟩ := a
      have h1 := h.defers
      simp only at h1
      subst h1
      unfold chainAct2
      have h2 := fill_unique (pairs ops fun i => valAt2 cl us i) (pairs_nodup _ hnd) a0.tmps t h.size (fun d hd => ?_) (fun p hp _ => ?_)
      · rw [← h2]
      · refine h.out d fun i o hi _ hd2 => ?_
        exact hd _ (pairs_has hi hd2 (valAt2_done fun hc => (h.steps i (Array.getElem?_eq_some_iff.1 hi).1 hc).1 (hdone i (Array.getElem?_eq_some_iff.1 hi).1))) rfl
      · obtain ⟨i, o, hi, hd, hv⟩ := pairs_mem hp
        have := h.inn i o p.1 hi (hdone i (Array.getElem?_eq_some_iff.1 hi).1) hd
        rw [this, valAt2_of hv]
    rw [hact]
    exact hend us w hum h.rel
  · have : (List.filter (fun i => !(Array.replicate ops.size false).getD i false) (List.range ops.size)).length ≤ (List.range ops.size).length := List.length_filter_le _ _
    unfold unlisted
    simpa using this
  · have hno : ∀ i, (Array.replicate ops.size false).getD i false = true → False := fun i hL => by
      simp at hL; rcases Nat.lt_or_ge i ops.size with h | h <;> simp [h] at hL
    refine ⟨[], rfl, rfl, fun _ _ => rfl, fun i o d _ hL _ => (hno i hL).elim, fun i _ _ => ⟨fun hL => (hno i hL).elim, fun h => by simp at h⟩, fun h => by simp at h, by simp, fun i o _ hL => (hno i hL).elim, h0⟩


theorem wp_region_stepsC {id : Nat} {a0 : Act} {w0 : World} (cl : List Stp) (m0 m : Nat) (B : Nat) (W : World) (hB : B ≤ W.heap.size) (G F : List Value → World → Prop) (af : List Value → Act) (hm : P.follows .mixedOrders = true) (hlen : cl.length = ops.size)
    (hback : (ops.toList.zipIdx.all fun (o, i) => o.after.all fun e => decide (e.on < i)) = true) (hguard : (ops.all fun o => o.guard.isNone) = true)
    (hdst : nodupB (ops.toList.filterMap (·.dst)) = true) (hroom : (ops.toList.filterMap (·.dst)).all (fun d => decide (d < a0.tmps.size)) = true) (hreads : readsB2 ops cl = true)
    (hvald : ((List.range ops.size).all fun i => stepIs cl i || ((ops[i]?).bind (·.dst)).isSome) = true)
    (hchain : chainB ops cl m0 m = true) (hlast : lastB ops cl m = true) (haf : af = chainAct2 ops cl a0)
    (hG : ∀ us w w', G us w → Below w.heap.size w w' → G us w') (h0 : Below B W w0) (hg0 : G [] w0.drew)
    (hval : ValsOk P (af []) B W ops.toList cl) (hstep : StepsOk P af B W G F m0 [] ops.toList cl)
    (hend : ∀ us w, us.length = m → (if m ≤ m0 then Below B W w ∧ G us w else F us w) → Q .normal (af us) w) :
    (Code.region id ops true).wp P Q a0 w0 := by
  refine wp_region_chain2 cl m0 m (chainR B W G F m0) af hm hlen hback hguard hdst hroom hreads hvald hchain hlast haf ?_ ?_ (ValsOk.to _ _ hval) (StepsOk.to _ _ 0 fun us hus => ?_) fun us w hus hr => hend us w hus ?_
  · intro us w w' hus hr hb
    unfold chainR at hr ⊢
    rw [if_pos hus] at hr ⊢
    exact ⟨hr.1.trans (hb.mono (Nat.le_trans hB hr.1.size)), hG us w w' hr.2 hb⟩
  · unfold chainR
    rw [if_pos (by simp)]
    exact ⟨h0.drew, hg0⟩
  · obtain rfl := List.eq_nil_of_length_eq_zero hus
    exact hstep
  · unfold chainR at hr
    rw [hus] at hr; exact hr
end
/- Package ray: the closure of Mul. (Written by wip/top/genraym.py.) -/

theorem allocFour {o : Oper} (h : o.op = .alloc 79) : AllocF Tryz.prog o 79 16 := by
  refine ⟨#[.bool false, .slice none 0 0, .bool false, .slice none 0 0, .bool false, .slice none 0 0, .bool false, .slice none 0 0, .bool false, .slice none 0 0, .bool false, .slice none 0 0, .bool false, .slice none 0 0, .bool false, .slice none 0 0], rfl, fun ρ w => ?_⟩
  unfold execOp
  rw [h]
  kernel_rfl
theorem fracParts : (Tryz.prog.info? 27).map (fun i => (i.zero, i.size, i.bytes)) = some (some (.agg #[.bool false, .slice none 0 0, .bool false, .slice none 0 0]), 4, 64) := by kernel_rfl
theorem kept_grown {w w' : World} {base size n : Nat} {e : TypeId} {v : Value} {xs : List Value} (h : w.ownsRow base e size v n xs) (hg : w.grownBy w' v.ownBlock) : KeptV base [e] w w' := by
  refine ⟨hg.size, fun k hk => ?_⟩
  by_cases hv : v.ownBlock = some k
  · rcases h.2 with ⟨rfl, -⟩ | ⟨g, cap, cur, rfl, h1, h2, -⟩
    · cases hv
    · simp only [Value.ownBlock, Option.some.injEq] at hv
      subst hv
      exact .inr ⟨h1, e, List.mem_singleton.2 rfl, cur, h2⟩
  · exact .inl (hg.block k hk (fun e' => hv e'.symm))
theorem GrowF.below {w w' : World} {base : Nat} {v : Value} {zs : List (Int × Int)} (h : GrowF w base v zs) (hb : Below w.heap.size w w') : GrowF w' base v zs := by
  obtain ⟨l, h1, h2⟩ := h.form
  exact ⟨l, own_below h1 hb, h2.kept (Ts := []) (KeptV.of_below (B := 0) hb) (by simp)⟩
theorem GrowF.nil (w : World) (base : Nat) : GrowF w base (.slice none 0 0) [] := ⟨[], World.ownsRow_nil _ _ _ _, trivial⟩
theorem cellsF_app (l : List FLoc) (q : FLoc) : cellsF (l ++ [q]) = cellsF l ++ q.cells := by
  unfold cellsF
  rw [List.flatMap_append, List.flatMap_cons, List.flatMap_nil, List.append_nil]
theorem GrowF.fl {w : World} {base : Nat} {v : Value} {z : Int × Int} {zs : List (Int × Int)} (h : GrowF w base v (z :: zs)) (hl : (z :: zs).length ≤ 1000) : FL w v (z :: zs) := by
  obtain ⟨l, h1, h2⟩ := h.form
  have hlen := h2.at_.len
  rcases h1.2 with ⟨rfl, h3⟩ | ⟨g, cap, cur, rfl, -, h3, -, -, -, h4⟩
  · rw [hlen] at h3
    simp at h3
  · exact ⟨g, cap, cur, l, rfl, h3, by rw [← h4]; exact List.take_prefix _ _, h2, by omega⟩
theorem GrowF.more {w w' : World} {base : Nat} {v v' : Value} {q : FLoc} {z : Int × Int} {zs : List (Int × Int)} (hq : FracIn w 0 q.val z.1 z.2) {l : List FLoc} (h1 : w.ownsRow base 27 4 v l.length (cellsF l)) (h2 : FIs w l zs) (ho : w'.ownsRow base 27 4 v' (l.length + 1) (cellsF l ++ q.cells)) (hg : w.grownBy w' v.ownBlock) : GrowF w' base v' (zs ++ [z]) := by
  have k := kept_grown h1 hg
  refine ⟨l ++ [q], ?_, (h2.kept k (by decide)).app (hq.kept k (by decide))⟩
  rw [cellsF_app, List.length_append]
  exact ho

theorem rmul_c {n1 d1 n2 d2 n3 d3 n4 d4 x1 y1 x2 y2 x3 y3 x4 y4 N1 D1 N2 D2 N3 D3 N4 D4 : Int} {Am1 Am2 Am3 Am4 Am5 Am6 Am7 Am8 : Option Addr} {cm1 cm2 cm3 cm4 cm5 cm6 cm7 cm8 : Nat} {Ax1 Ax2 Ax3 Ax4 Ax5 Ax6 Ax7 Ax8 : Option Addr} {cx1 cx2 cx3 cx4 cx5 cx6 cx7 cx8 : Nat} (C1 : PairI 35 n1 d1 x1 y1 n2 d2 x3 y3 N1 D1) (C2 : PairI 35 n1 d1 x2 y2 n2 d2 x4 y4 N2 D2) (C3 : PairI 35 n3 d3 x1 y1 n4 d4 x3 y3 N3 D3) (C4 : PairI 35 n3 d3 x2 y2 n4 d4 x4 y4 N4 D4) (w : World) {bm bx : Nat} (b_m : Hex w bm 38 (.bool (decide (n1 < 0))) (.slice Am1 (natL n1.natAbs).length cm1) (.bool (decide (d1 < 0))) (.slice Am2 (natL d1.natAbs).length cm2) (.bool (decide (n2 < 0))) (.slice Am3 (natL n2.natAbs).length cm3) (.bool (decide (d2 < 0))) (.slice Am4 (natL d2.natAbs).length cm4) (.bool (decide (n3 < 0))) (.slice Am5 (natL n3.natAbs).length cm5) (.bool (decide (d3 < 0))) (.slice Am6 (natL d3.natAbs).length cm6) (.bool (decide (n4 < 0))) (.slice Am7 (natL n4.natAbs).length cm7) (.bool (decide (d4 < 0))) (.slice Am8 (natL d4.natAbs).length cm8)) (g_m : MatAt w (.agg #[.bool (decide (n1 < 0)), .slice Am1 (natL n1.natAbs).length cm1, .bool (decide (d1 < 0)), .slice Am2 (natL d1.natAbs).length cm2, .bool (decide (n2 < 0)), .slice Am3 (natL n2.natAbs).length cm3, .bool (decide (d2 < 0)), .slice Am4 (natL d2.natAbs).length cm4, .bool (decide (n3 < 0)), .slice Am5 (natL n3.natAbs).length cm5, .bool (decide (d3 < 0)), .slice Am6 (natL d3.natAbs).length cm6, .bool (decide (n4 < 0)), .slice Am7 (natL n4.natAbs).length cm7, .bool (decide (d4 < 0)), .slice Am8 (natL d4.natAbs).length cm8]) n1 d1 n2 d2 n3 d3 n4 d4) (b_x : Hex w bx 38 (.bool (decide (x1 < 0))) (.slice Ax1 (natL x1.natAbs).length cx1) (.bool (decide (y1 < 0))) (.slice Ax2 (natL y1.natAbs).length cx2) (.bool (decide (x2 < 0))) (.slice Ax3 (natL x2.natAbs).length cx3) (.bool (decide (y2 < 0))) (.slice Ax4 (natL y2.natAbs).length cx4) (.bool (decide (x3 < 0))) (.slice Ax5 (natL x3.natAbs).length cx5) (.bool (decide (y3 < 0))) (.slice Ax6 (natL y3.natAbs).length cx6) (.bool (decide (x4 < 0))) (.slice Ax7 (natL x4.natAbs).length cx7) (.bool (decide (y4 < 0))) (.slice Ax8 (natL y4.natAbs).length cx8)) (g_x : MatAt w (.agg #[.bool (decide (x1 < 0)), .slice Ax1 (natL x1.natAbs).length cx1, .bool (decide (y1 < 0)), .slice Ax2 (natL y1.natAbs).length cx2, .bool (decide (x2 < 0)), .slice Ax3 (natL x2.natAbs).length cx3, .bool (decide (y2 < 0)), .slice Ax4 (natL y2.natAbs).length cx4, .bool (decide (x3 < 0)), .slice Ax5 (natL x3.natAbs).length cx5, .bool (decide (y3 < 0)), .slice Ax6 (natL y3.natAbs).length cx6, .bool (decide (x4 < 0)), .slice Ax7 (natL x4.natAbs).length cx7, .bool (decide (y4 < 0)), .slice Ax8 (natL y4.natAbs).length cx8]) x1 y1 x2 y2 x3 y3 x4 y4) :
    Calls Tryz.prog 33 #[.pointer (some ⟨bm, 0, none⟩), .pointer (some ⟨bx, 0, none⟩)] w (RetFL w [(N1, D1), (N2, D2), (N3, D3), (N4, D4)]) := by
  obtain ⟨i0, hi, hz0, hz1, hz2⟩ := info_parts fracParts
  have H1 := Hd C1
  have H2 := Hd C2
  have H3 := Hd C3
  have H4 := Hd C4
  clear C1 C2 C3 C4
  have G_m := Hd g_m
  have G_x := Hd g_x
  have P_m := Hd b_m
  have P_x := Hd b_x
  have hm := b_m.blk.lt
  have hx := b_x.blk.lt
  clear g_m g_x b_m b_x
  go_enter Tryz.func33, Tryz.ntmps33
  go_upto_region 1 with fail
  refine wp_region_free [.val (.agg #[.bool (decide (n1 < 0)), .slice Am1 (natL n1.natAbs).length cm1, .bool (decide (d1 < 0)), .slice Am2 (natL d1.natAbs).length cm2, .bool (decide (n2 < 0)), .slice Am3 (natL n2.natAbs).length cm3, .bool (decide (d2 < 0)), .slice Am4 (natL d2.natAbs).length cm4, .bool (decide (n3 < 0)), .slice Am5 (natL n3.natAbs).length cm5, .bool (decide (d3 < 0)), .slice Am6 (natL d3.natAbs).length cm6, .bool (decide (n4 < 0)), .slice Am7 (natL n4.natAbs).length cm7, .bool (decide (d4 < 0)), .slice Am8 (natL d4.natAbs).length cm8]) [], .val (.agg #[.bool (decide (n1 < 0)), .slice Am1 (natL n1.natAbs).length cm1, .bool (decide (d1 < 0)), .slice Am2 (natL d1.natAbs).length cm2, .bool (decide (n2 < 0)), .slice Am3 (natL n2.natAbs).length cm3, .bool (decide (d2 < 0)), .slice Am4 (natL d2.natAbs).length cm4, .bool (decide (n3 < 0)), .slice Am5 (natL n3.natAbs).length cm5, .bool (decide (d3 < 0)), .slice Am6 (natL d3.natAbs).length cm6, .bool (decide (n4 < 0)), .slice Am7 (natL n4.natAbs).length cm7, .bool (decide (d4 < 0)), .slice Am8 (natL d4.natAbs).length cm8]) [], .val (.agg #[.bool (decide (x1 < 0)), .slice Ax1 (natL x1.natAbs).length cx1, .bool (decide (y1 < 0)), .slice Ax2 (natL y1.natAbs).length cx2, .bool (decide (x2 < 0)), .slice Ax3 (natL x2.natAbs).length cx3, .bool (decide (y2 < 0)), .slice Ax4 (natL y2.natAbs).length cx4, .bool (decide (x3 < 0)), .slice Ax5 (natL x3.natAbs).length cx5, .bool (decide (y3 < 0)), .slice Ax6 (natL y3.natAbs).length cx6, .bool (decide (x4 < 0)), .slice Ax7 (natL x4.natAbs).length cx7, .bool (decide (y4 < 0)), .slice Ax8 (natL y4.natAbs).length cx8]) [], .val (.agg #[.bool (decide (x1 < 0)), .slice Ax1 (natL x1.natAbs).length cx1, .bool (decide (y1 < 0)), .slice Ax2 (natL y1.natAbs).length cx2, .bool (decide (x2 < 0)), .slice Ax3 (natL x2.natAbs).length cx3, .bool (decide (y2 < 0)), .slice Ax4 (natL y2.natAbs).length cx4, .bool (decide (x3 < 0)), .slice Ax5 (natL x3.natAbs).length cx5, .bool (decide (y3 < 0)), .slice Ax6 (natL y3.natAbs).length cx6, .bool (decide (x4 < 0)), .slice Ax7 (natL x4.natAbs).length cx7, .bool (decide (y4 < 0)), .slice Ax8 (natL y4.natAbs).length cx8]) [], .new 79 16, .new 79 16, .put 79 16 4 1 [], .put 79 16 5 3 []] w.heap.size w [79] (fun _ _ => False) _ mixedOrders2 (Nat.le_refl _) (Below.refl _ _) (KeptV.refl _ _ _) rfl (by kernel_rfl) (by kernel_rfl) (by kernel_rfl) (by kernel_rfl) (by kernel_rfl) (by kernel_rfl) (by kernel_rfl) (by kernel_rfl) rfl (by simp [oldsF]) ?_ ?_ ?_ ?_
  · simp only [StableF]
  · simp only [OldsF]
  · simp (maxSteps := 4000000) [StepsF, DepF, freeAct, fill, pairs]
    repeat' (first | apply And.intro | (intro (u : Value)) | (intro (u : Nat)))
    all_goals try exact ⟨_, _, _, rfl, rfl, rfl, rfl, fourInfo⟩
    all_goals try exact allocFour rfl
    all_goals first
    | (intro V hV hK
       obtain ⟨-, a0, a1, a2, a3, a4, a5, a6, a7, a8, a9, a10, a11, a12, a13, a14, a15⟩ := (P_m.out.below hV).facts
       obtain ⟨-, b0, b1, b2, b3, b4, b5, b6, b7, b8, b9, b10, b11, b12, b13, b14, b15⟩ := (P_x.out.below hV).facts
       clear hV hK
       go_simp
       first
       | exact Below.refl _ _
       | (refine (fourOf_w V).mono ?_; rintro e w' ⟨rfl, hb⟩; exact ⟨rfl, hb⟩))
    | exact fun _ _ _ => ⟨rfl, by simp [Value.cells, Value.oneCell']⟩
    | exact fun _ _ _ _ => ⟨rfl, by simp [Value.cells, Value.oneCell']⟩
  · simp [EndF, FactsF, freeAct, fill, pairs]
    intro b1 hb1 b2 hb2 V hV hK p1 p2 _ _ _
    simp [Value.cells] at p1 p2
    have P1 := Hd (Hex.mk p1)
    have P2 := Hd (Hex.mk p2)
    have HB := Hd hV
    have G_m := Hd (G_m.out.below hV)
    have G_x := Hd (G_x.out.below hV)
    clear hV hK p1 p2 P_m P_x
    have HG := Hd (GrowF.nil V V.heap.size)
    go_wp2_with fail
    go_loopw [5, 13] (fun s5 s13 wr => ∃ (n : Nat) (v5 : Value), v5 = s5 ∧ (s13 = .int .i64 0 ∧ n = 0 ∨ s13 = .int .i64 1 ∧ n = 1 ∨ s13 = .int .i64 2 ∧ n = 2 ∨ s13 = .int .i64 3 ∧ n = 3 ∨ s13 = .int .i64 4 ∧ n = 4) ∧ Hid (GrowF wr V.heap.size s5 ([(N1, D1), (N2, D2), (N3, D3), (N4, D4)].take n)) ∧ Hid (Below V.heap.size V wr)) (fun _ s _ => 4 - (intOf s).toNat)
    case atStart => exact ⟨0, _, rfl, .inl ⟨rfl, rfl⟩, HG, Hd (Below.refl _ _)⟩
    case round =>
      obtain ⟨n, v5, rfl, hn, HG, HW⟩ := hrel
      rcases hn with ⟨rfl, rfl⟩ | ⟨rfl, rfl⟩ | ⟨rfl, rfl⟩ | ⟨rfl, rfl⟩ | ⟨rfl, rfl⟩
      · go_upto_region 7 with fail
        refine wp_region_stepsC [.val v5, .val (.int .i64 0), .val (.pointer (some ⟨b1, 0, none⟩)), .val (.agg #[.bool (decide (n1 < 0)), .slice Am1 (natL n1.natAbs).length cm1, .bool (decide (d1 < 0)), .slice Am2 (natL d1.natAbs).length cm2]), .val (.int .i64 0), .val (.pointer (some ⟨b2, 0, none⟩)), .val (.agg #[.bool (decide (x1 < 0)), .slice Ax1 (natL x1.natAbs).length cx1, .bool (decide (y1 < 0)), .slice Ax2 (natL y1.natAbs).length cx2]), .val (.int .i64 0), .val (.int .i64 1), .val (.pointer (some ⟨b1, 4, none⟩)), .val (.agg #[.bool (decide (n2 < 0)), .slice Am3 (natL n2.natAbs).length cm3, .bool (decide (d2 < 0)), .slice Am4 (natL d2.natAbs).length cm4]), .val (.int .i64 0), .val (.int .i64 2), .val (.pointer (some ⟨b2, 8, none⟩)), .val (.agg #[.bool (decide (x3 < 0)), .slice Ax5 (natL x3.natAbs).length cx5, .bool (decide (y3 < 0)), .slice Ax6 (natL y3.natAbs).length cx6]), .step, .step, .step, .step] 4 4 V.heap.size wr HW.out.size
          (fun us W => match us with
            | [] => GrowF W V.heap.size v5 ([(N1, D1), (N2, D2), (N3, D3), (N4, D4)].take 0)
            | [u0] => GrowF W V.heap.size v5 ([(N1, D1), (N2, D2), (N3, D3), (N4, D4)].take 0) ∧ FracIn W 0 u0 N1 D1
            | [_, u1] => GrowF W V.heap.size v5 ([(N1, D1), (N2, D2), (N3, D3), (N4, D4)].take 0) ∧ ∃ (q : FLoc) (g : Nat), u1 = .slice (some ⟨g, 0, none⟩) 1 1 ∧ Reads W W.heap.size 4 (some ⟨g, 0, none⟩) 1 q.cells ∧ FracIn W 0 q.val N1 D1
            | [_, _, u2] => GrowF W V.heap.size u2 ([(N1, D1), (N2, D2), (N3, D3), (N4, D4)].take 1)
            | [_, _, _, u3] => GrowF W V.heap.size u3 ([(N1, D1), (N2, D2), (N3, D3), (N4, D4)].take 1)
            | _ => False)
          (fun _ _ => False) _ mixedOrders2 (by kernel_rfl) (by kernel_rfl) (by kernel_rfl) (by kernel_rfl) (by kernel_rfl) (by kernel_rfl) (by kernel_rfl) (by kernel_rfl) (by kernel_rfl) rfl ?_ (Below.refl _ _) (HG.out.below ((Below.refl _ _).drew)) ?_ ?_ ?_
        · intro us W W' hg hb
          match us, hg with
          | [], hg => exact GrowF.below hg hb
          | [u0], ⟨h1, h2⟩ => exact ⟨h1.below hb, h2.below hb⟩
          | [_, u1], ⟨h1, q, g, h2, h3, h4⟩ => exact ⟨h1.below hb, q, g, h2, (h3.below hb).more hb.size, h4.below hb⟩
          | [_, _, u2], hg => exact GrowF.below hg hb
          | [_, _, _, u3], hg => exact GrowF.below hg hb
        · simp [ValsOk, chainAct2, fill, pairs, valAt2, stepNo]
          repeat' apply And.intro
          all_goals
            intro W hW
            have hvw := HW.out.trans hW
            obtain ⟨-, a0, a1, a2, a3, a4, a5, a6, a7, a8, a9, a10, a11, a12, a13, a14, a15⟩ := (P1.out.below hvw).facts
            obtain ⟨-, b0, b1, b2, b3, b4, b5, b6, b7, b8, b9, b10, b11, b12, b13, b14, b15⟩ := (P2.out.below hvw).facts
            clear hW hvw
            go_simp
            try (first | exact Below.refl _ _ | exact ⟨by first | rfl | decide, Below.refl _ _⟩)
        · simp [StepsOk, chainAct2, fill, pairs, valAt2, stepNo, List.filter, Stp.isStep]
          refine ⟨fun W hW hr => ?_, fun u0 => ⟨fun W hW hr hf => ?_, fun u1 => ⟨fun W hW hr q g hu hrd hf => ?_, fun u2 W hW hr => ?_⟩⟩⟩
          · have hvs := Nat.le_trans HW.out.size hW.size
            have hvw := HW.out.trans hW
            have gm := G_m.out.below hvw
            have gx := G_x.out.below hvw
            go_simp
            refine (H1.out W _ _ _ _ gm.fa gx.fa gm.fb gx.fc).mono ?_
            rintro e w' ⟨v, rfl, hv, hb⟩
            exact ⟨hW.trans (hb.mono hvs), hr.below hb, hv⟩
          · obtain ⟨A1, c1, B1, e1, rfl, -⟩ := hf.form
            have hbv := Below.refl W.heap.size W
            have hvs := Nat.le_trans HW.out.size hW.size
            go_simp
            exact ⟨hW.alloc hvs _, hr.below (hbv.alloc (Nat.le_refl _) _), ⟨_, A1, _, c1, _, B1, _, e1⟩, Reads.new1 W _ 4 _ rfl, hf.below (hbv.alloc (Nat.le_refl _) _)⟩
          · subst hu
            have hsz := hW.size
            obtain ⟨l, h1, h2⟩ := hr.form
            have hlen : l.length = 0 := h2.at_.len
            refine wp_append_any W (.tmp 21) (.tmp 37) _ rfl V.heap.size 27 i0 _ 4 64 Tryz.underlying77 hi hz0 hz1 hz2 rfl (by omega) v5 l.length (cellsF l) rfl h1 W.heap.size (some ⟨g, 0, none⟩) 1 1 q.cells rfl hrd (by simp [FLoc.cells, Value.oneCell']) (by unfold maxLen; omega) (by omega) (by have := HW.out.size; omega) ?_
            intro v' w' ho hg hat
            exact ⟨v', rfl, hW.grown hg (by have := HW.out.size; omega) (fun k hk => (h1.lt k hk).1), GrowF.more hf h1 h2 ho hg⟩
          · obtain ⟨l, h1, h2⟩ := hr.form
            obtain ⟨A1, k1, rfl⟩ := own_form (by omega) h1
            go_simp
            try exact ⟨hW, hr⟩
        · intro us W hus hF
          rw [if_pos (by decide)] at hF
          obtain ⟨u0, u1, u2, u3, rfl⟩ : ∃ u0 u1 u2 u3, us = [u0, u1, u2, u3] := by
            match us, hus with
            | [u0, u1, u2, u3], _ => exact ⟨u0, u1, u2, u3, rfl⟩
          have HG := Hd (show GrowF W V.heap.size u3 ([(N1, D1), (N2, D2), (N3, D3), (N4, D4)].take 1) from hF.2)
          have HW := Hd (HW.out.trans hF.1)
          simp [chainAct2, fill, pairs, valAt2, stepNo, List.filter, Stp.isStep]
          clear hF hus
          go_wp2_with fail
          go_roundw
          case rel => exact ⟨1, _, rfl, by simp, HG, HW⟩
          case measure => simp [intOf]
      · go_upto_region 7 with fail
        refine wp_region_stepsC [.val v5, .val (.int .i64 0), .val (.pointer (some ⟨b1, 0, none⟩)), .val (.agg #[.bool (decide (n1 < 0)), .slice Am1 (natL n1.natAbs).length cm1, .bool (decide (d1 < 0)), .slice Am2 (natL d1.natAbs).length cm2]), .val (.int .i64 1), .val (.pointer (some ⟨b2, 4, none⟩)), .val (.agg #[.bool (decide (x2 < 0)), .slice Ax3 (natL x2.natAbs).length cx3, .bool (decide (y2 < 0)), .slice Ax4 (natL y2.natAbs).length cx4]), .val (.int .i64 0), .val (.int .i64 1), .val (.pointer (some ⟨b1, 4, none⟩)), .val (.agg #[.bool (decide (n2 < 0)), .slice Am3 (natL n2.natAbs).length cm3, .bool (decide (d2 < 0)), .slice Am4 (natL d2.natAbs).length cm4]), .val (.int .i64 1), .val (.int .i64 3), .val (.pointer (some ⟨b2, 12, none⟩)), .val (.agg #[.bool (decide (x4 < 0)), .slice Ax7 (natL x4.natAbs).length cx7, .bool (decide (y4 < 0)), .slice Ax8 (natL y4.natAbs).length cx8]), .step, .step, .step, .step] 4 4 V.heap.size wr HW.out.size
          (fun us W => match us with
            | [] => GrowF W V.heap.size v5 ([(N1, D1), (N2, D2), (N3, D3), (N4, D4)].take 1)
            | [u0] => GrowF W V.heap.size v5 ([(N1, D1), (N2, D2), (N3, D3), (N4, D4)].take 1) ∧ FracIn W 0 u0 N2 D2
            | [_, u1] => GrowF W V.heap.size v5 ([(N1, D1), (N2, D2), (N3, D3), (N4, D4)].take 1) ∧ ∃ (q : FLoc) (g : Nat), u1 = .slice (some ⟨g, 0, none⟩) 1 1 ∧ Reads W W.heap.size 4 (some ⟨g, 0, none⟩) 1 q.cells ∧ FracIn W 0 q.val N2 D2
            | [_, _, u2] => GrowF W V.heap.size u2 ([(N1, D1), (N2, D2), (N3, D3), (N4, D4)].take 2)
            | [_, _, _, u3] => GrowF W V.heap.size u3 ([(N1, D1), (N2, D2), (N3, D3), (N4, D4)].take 2)
            | _ => False)
          (fun _ _ => False) _ mixedOrders2 (by kernel_rfl) (by kernel_rfl) (by kernel_rfl) (by kernel_rfl) (by kernel_rfl) (by kernel_rfl) (by kernel_rfl) (by kernel_rfl) (by kernel_rfl) rfl ?_ (Below.refl _ _) (HG.out.below ((Below.refl _ _).drew)) ?_ ?_ ?_
        · intro us W W' hg hb
          match us, hg with
          | [], hg => exact GrowF.below hg hb
          | [u0], ⟨h1, h2⟩ => exact ⟨h1.below hb, h2.below hb⟩
          | [_, u1], ⟨h1, q, g, h2, h3, h4⟩ => exact ⟨h1.below hb, q, g, h2, (h3.below hb).more hb.size, h4.below hb⟩
          | [_, _, u2], hg => exact GrowF.below hg hb
          | [_, _, _, u3], hg => exact GrowF.below hg hb
        · simp [ValsOk, chainAct2, fill, pairs, valAt2, stepNo]
          repeat' apply And.intro
          all_goals
            intro W hW
            have hvw := HW.out.trans hW
            obtain ⟨-, a0, a1, a2, a3, a4, a5, a6, a7, a8, a9, a10, a11, a12, a13, a14, a15⟩ := (P1.out.below hvw).facts
            obtain ⟨-, b0, b1, b2, b3, b4, b5, b6, b7, b8, b9, b10, b11, b12, b13, b14, b15⟩ := (P2.out.below hvw).facts
            clear hW hvw
            go_simp
            try (first | exact Below.refl _ _ | exact ⟨by first | rfl | decide, Below.refl _ _⟩)
        · simp [StepsOk, chainAct2, fill, pairs, valAt2, stepNo, List.filter, Stp.isStep]
          refine ⟨fun W hW hr => ?_, fun u0 => ⟨fun W hW hr hf => ?_, fun u1 => ⟨fun W hW hr q g hu hrd hf => ?_, fun u2 W hW hr => ?_⟩⟩⟩
          · have hvs := Nat.le_trans HW.out.size hW.size
            have hvw := HW.out.trans hW
            have gm := G_m.out.below hvw
            have gx := G_x.out.below hvw
            go_simp
            refine (H2.out W _ _ _ _ gm.fa gx.fb gm.fb gx.fd).mono ?_
            rintro e w' ⟨v, rfl, hv, hb⟩
            exact ⟨hW.trans (hb.mono hvs), hr.below hb, hv⟩
          · obtain ⟨A1, c1, B1, e1, rfl, -⟩ := hf.form
            have hbv := Below.refl W.heap.size W
            have hvs := Nat.le_trans HW.out.size hW.size
            go_simp
            exact ⟨hW.alloc hvs _, hr.below (hbv.alloc (Nat.le_refl _) _), ⟨_, A1, _, c1, _, B1, _, e1⟩, Reads.new1 W _ 4 _ rfl, hf.below (hbv.alloc (Nat.le_refl _) _)⟩
          · subst hu
            have hsz := hW.size
            obtain ⟨l, h1, h2⟩ := hr.form
            have hlen : l.length = 1 := h2.at_.len
            refine wp_append_any W (.tmp 21) (.tmp 37) _ rfl V.heap.size 27 i0 _ 4 64 Tryz.underlying77 hi hz0 hz1 hz2 rfl (by omega) v5 l.length (cellsF l) rfl h1 W.heap.size (some ⟨g, 0, none⟩) 1 1 q.cells rfl hrd (by simp [FLoc.cells, Value.oneCell']) (by unfold maxLen; omega) (by omega) (by have := HW.out.size; omega) ?_
            intro v' w' ho hg hat
            exact ⟨v', rfl, hW.grown hg (by have := HW.out.size; omega) (fun k hk => (h1.lt k hk).1), GrowF.more hf h1 h2 ho hg⟩
          · obtain ⟨l, h1, h2⟩ := hr.form
            obtain ⟨A1, k1, rfl⟩ := own_form (by omega) h1
            go_simp
            try exact ⟨hW, hr⟩
        · intro us W hus hF
          rw [if_pos (by decide)] at hF
          obtain ⟨u0, u1, u2, u3, rfl⟩ : ∃ u0 u1 u2 u3, us = [u0, u1, u2, u3] := by
            match us, hus with
            | [u0, u1, u2, u3], _ => exact ⟨u0, u1, u2, u3, rfl⟩
          have HG := Hd (show GrowF W V.heap.size u3 ([(N1, D1), (N2, D2), (N3, D3), (N4, D4)].take 2) from hF.2)
          have HW := Hd (HW.out.trans hF.1)
          simp [chainAct2, fill, pairs, valAt2, stepNo, List.filter, Stp.isStep]
          clear hF hus
          go_wp2_with fail
          go_roundw
          case rel => exact ⟨2, _, rfl, by simp, HG, HW⟩
          case measure => simp [intOf]
      · go_upto_region 7 with fail
        refine wp_region_stepsC [.val v5, .val (.int .i64 2), .val (.pointer (some ⟨b1, 8, none⟩)), .val (.agg #[.bool (decide (n3 < 0)), .slice Am5 (natL n3.natAbs).length cm5, .bool (decide (d3 < 0)), .slice Am6 (natL d3.natAbs).length cm6]), .val (.int .i64 0), .val (.pointer (some ⟨b2, 0, none⟩)), .val (.agg #[.bool (decide (x1 < 0)), .slice Ax1 (natL x1.natAbs).length cx1, .bool (decide (y1 < 0)), .slice Ax2 (natL y1.natAbs).length cx2]), .val (.int .i64 2), .val (.int .i64 3), .val (.pointer (some ⟨b1, 12, none⟩)), .val (.agg #[.bool (decide (n4 < 0)), .slice Am7 (natL n4.natAbs).length cm7, .bool (decide (d4 < 0)), .slice Am8 (natL d4.natAbs).length cm8]), .val (.int .i64 0), .val (.int .i64 2), .val (.pointer (some ⟨b2, 8, none⟩)), .val (.agg #[.bool (decide (x3 < 0)), .slice Ax5 (natL x3.natAbs).length cx5, .bool (decide (y3 < 0)), .slice Ax6 (natL y3.natAbs).length cx6]), .step, .step, .step, .step] 4 4 V.heap.size wr HW.out.size
          (fun us W => match us with
            | [] => GrowF W V.heap.size v5 ([(N1, D1), (N2, D2), (N3, D3), (N4, D4)].take 2)
            | [u0] => GrowF W V.heap.size v5 ([(N1, D1), (N2, D2), (N3, D3), (N4, D4)].take 2) ∧ FracIn W 0 u0 N3 D3
            | [_, u1] => GrowF W V.heap.size v5 ([(N1, D1), (N2, D2), (N3, D3), (N4, D4)].take 2) ∧ ∃ (q : FLoc) (g : Nat), u1 = .slice (some ⟨g, 0, none⟩) 1 1 ∧ Reads W W.heap.size 4 (some ⟨g, 0, none⟩) 1 q.cells ∧ FracIn W 0 q.val N3 D3
            | [_, _, u2] => GrowF W V.heap.size u2 ([(N1, D1), (N2, D2), (N3, D3), (N4, D4)].take 3)
            | [_, _, _, u3] => GrowF W V.heap.size u3 ([(N1, D1), (N2, D2), (N3, D3), (N4, D4)].take 3)
            | _ => False)
          (fun _ _ => False) _ mixedOrders2 (by kernel_rfl) (by kernel_rfl) (by kernel_rfl) (by kernel_rfl) (by kernel_rfl) (by kernel_rfl) (by kernel_rfl) (by kernel_rfl) (by kernel_rfl) rfl ?_ (Below.refl _ _) (HG.out.below ((Below.refl _ _).drew)) ?_ ?_ ?_
        · intro us W W' hg hb
          match us, hg with
          | [], hg => exact GrowF.below hg hb
          | [u0], ⟨h1, h2⟩ => exact ⟨h1.below hb, h2.below hb⟩
          | [_, u1], ⟨h1, q, g, h2, h3, h4⟩ => exact ⟨h1.below hb, q, g, h2, (h3.below hb).more hb.size, h4.below hb⟩
          | [_, _, u2], hg => exact GrowF.below hg hb
          | [_, _, _, u3], hg => exact GrowF.below hg hb
        · simp [ValsOk, chainAct2, fill, pairs, valAt2, stepNo]
          repeat' apply And.intro
          all_goals
            intro W hW
            have hvw := HW.out.trans hW
            obtain ⟨-, a0, a1, a2, a3, a4, a5, a6, a7, a8, a9, a10, a11, a12, a13, a14, a15⟩ := (P1.out.below hvw).facts
            obtain ⟨-, b0, b1, b2, b3, b4, b5, b6, b7, b8, b9, b10, b11, b12, b13, b14, b15⟩ := (P2.out.below hvw).facts
            clear hW hvw
            go_simp
            try (first | exact Below.refl _ _ | exact ⟨by first | rfl | decide, Below.refl _ _⟩)
        · simp [StepsOk, chainAct2, fill, pairs, valAt2, stepNo, List.filter, Stp.isStep]
          refine ⟨fun W hW hr => ?_, fun u0 => ⟨fun W hW hr hf => ?_, fun u1 => ⟨fun W hW hr q g hu hrd hf => ?_, fun u2 W hW hr => ?_⟩⟩⟩
          · have hvs := Nat.le_trans HW.out.size hW.size
            have hvw := HW.out.trans hW
            have gm := G_m.out.below hvw
            have gx := G_x.out.below hvw
            go_simp
            refine (H3.out W _ _ _ _ gm.fc gx.fa gm.fd gx.fc).mono ?_
            rintro e w' ⟨v, rfl, hv, hb⟩
            exact ⟨hW.trans (hb.mono hvs), hr.below hb, hv⟩
          · obtain ⟨A1, c1, B1, e1, rfl, -⟩ := hf.form
            have hbv := Below.refl W.heap.size W
            have hvs := Nat.le_trans HW.out.size hW.size
            go_simp
            exact ⟨hW.alloc hvs _, hr.below (hbv.alloc (Nat.le_refl _) _), ⟨_, A1, _, c1, _, B1, _, e1⟩, Reads.new1 W _ 4 _ rfl, hf.below (hbv.alloc (Nat.le_refl _) _)⟩
          · subst hu
            have hsz := hW.size
            obtain ⟨l, h1, h2⟩ := hr.form
            have hlen : l.length = 2 := h2.at_.len
            refine wp_append_any W (.tmp 21) (.tmp 37) _ rfl V.heap.size 27 i0 _ 4 64 Tryz.underlying77 hi hz0 hz1 hz2 rfl (by omega) v5 l.length (cellsF l) rfl h1 W.heap.size (some ⟨g, 0, none⟩) 1 1 q.cells rfl hrd (by simp [FLoc.cells, Value.oneCell']) (by unfold maxLen; omega) (by omega) (by have := HW.out.size; omega) ?_
            intro v' w' ho hg hat
            exact ⟨v', rfl, hW.grown hg (by have := HW.out.size; omega) (fun k hk => (h1.lt k hk).1), GrowF.more hf h1 h2 ho hg⟩
          · obtain ⟨l, h1, h2⟩ := hr.form
            obtain ⟨A1, k1, rfl⟩ := own_form (by omega) h1
            go_simp
            try exact ⟨hW, hr⟩
        · intro us W hus hF
          rw [if_pos (by decide)] at hF
          obtain ⟨u0, u1, u2, u3, rfl⟩ : ∃ u0 u1 u2 u3, us = [u0, u1, u2, u3] := by
            match us, hus with
            | [u0, u1, u2, u3], _ => exact ⟨u0, u1, u2, u3, rfl⟩
          have HG := Hd (show GrowF W V.heap.size u3 ([(N1, D1), (N2, D2), (N3, D3), (N4, D4)].take 3) from hF.2)
          have HW := Hd (HW.out.trans hF.1)
          simp [chainAct2, fill, pairs, valAt2, stepNo, List.filter, Stp.isStep]
          clear hF hus
          go_wp2_with fail
          go_roundw
          case rel => exact ⟨3, _, rfl, by simp, HG, HW⟩
          case measure => simp [intOf]
      · go_upto_region 7 with fail
        refine wp_region_stepsC [.val v5, .val (.int .i64 2), .val (.pointer (some ⟨b1, 8, none⟩)), .val (.agg #[.bool (decide (n3 < 0)), .slice Am5 (natL n3.natAbs).length cm5, .bool (decide (d3 < 0)), .slice Am6 (natL d3.natAbs).length cm6]), .val (.int .i64 1), .val (.pointer (some ⟨b2, 4, none⟩)), .val (.agg #[.bool (decide (x2 < 0)), .slice Ax3 (natL x2.natAbs).length cx3, .bool (decide (y2 < 0)), .slice Ax4 (natL y2.natAbs).length cx4]), .val (.int .i64 2), .val (.int .i64 3), .val (.pointer (some ⟨b1, 12, none⟩)), .val (.agg #[.bool (decide (n4 < 0)), .slice Am7 (natL n4.natAbs).length cm7, .bool (decide (d4 < 0)), .slice Am8 (natL d4.natAbs).length cm8]), .val (.int .i64 1), .val (.int .i64 3), .val (.pointer (some ⟨b2, 12, none⟩)), .val (.agg #[.bool (decide (x4 < 0)), .slice Ax7 (natL x4.natAbs).length cx7, .bool (decide (y4 < 0)), .slice Ax8 (natL y4.natAbs).length cx8]), .step, .step, .step, .step] 4 4 V.heap.size wr HW.out.size
          (fun us W => match us with
            | [] => GrowF W V.heap.size v5 ([(N1, D1), (N2, D2), (N3, D3), (N4, D4)].take 3)
            | [u0] => GrowF W V.heap.size v5 ([(N1, D1), (N2, D2), (N3, D3), (N4, D4)].take 3) ∧ FracIn W 0 u0 N4 D4
            | [_, u1] => GrowF W V.heap.size v5 ([(N1, D1), (N2, D2), (N3, D3), (N4, D4)].take 3) ∧ ∃ (q : FLoc) (g : Nat), u1 = .slice (some ⟨g, 0, none⟩) 1 1 ∧ Reads W W.heap.size 4 (some ⟨g, 0, none⟩) 1 q.cells ∧ FracIn W 0 q.val N4 D4
            | [_, _, u2] => GrowF W V.heap.size u2 ([(N1, D1), (N2, D2), (N3, D3), (N4, D4)].take 4)
            | [_, _, _, u3] => GrowF W V.heap.size u3 ([(N1, D1), (N2, D2), (N3, D3), (N4, D4)].take 4)
            | _ => False)
          (fun _ _ => False) _ mixedOrders2 (by kernel_rfl) (by kernel_rfl) (by kernel_rfl) (by kernel_rfl) (by kernel_rfl) (by kernel_rfl) (by kernel_rfl) (by kernel_rfl) (by kernel_rfl) rfl ?_ (Below.refl _ _) (HG.out.below ((Below.refl _ _).drew)) ?_ ?_ ?_
        · intro us W W' hg hb
          match us, hg with
          | [], hg => exact GrowF.below hg hb
          | [u0], ⟨h1, h2⟩ => exact ⟨h1.below hb, h2.below hb⟩
          | [_, u1], ⟨h1, q, g, h2, h3, h4⟩ => exact ⟨h1.below hb, q, g, h2, (h3.below hb).more hb.size, h4.below hb⟩
          | [_, _, u2], hg => exact GrowF.below hg hb
          | [_, _, _, u3], hg => exact GrowF.below hg hb
        · simp [ValsOk, chainAct2, fill, pairs, valAt2, stepNo]
          repeat' apply And.intro
          all_goals
            intro W hW
            have hvw := HW.out.trans hW
            obtain ⟨-, a0, a1, a2, a3, a4, a5, a6, a7, a8, a9, a10, a11, a12, a13, a14, a15⟩ := (P1.out.below hvw).facts
            obtain ⟨-, b0, b1, b2, b3, b4, b5, b6, b7, b8, b9, b10, b11, b12, b13, b14, b15⟩ := (P2.out.below hvw).facts
            clear hW hvw
            go_simp
            try (first | exact Below.refl _ _ | exact ⟨by first | rfl | decide, Below.refl _ _⟩)
        · simp [StepsOk, chainAct2, fill, pairs, valAt2, stepNo, List.filter, Stp.isStep]
          refine ⟨fun W hW hr => ?_, fun u0 => ⟨fun W hW hr hf => ?_, fun u1 => ⟨fun W hW hr q g hu hrd hf => ?_, fun u2 W hW hr => ?_⟩⟩⟩
          · have hvs := Nat.le_trans HW.out.size hW.size
            have hvw := HW.out.trans hW
            have gm := G_m.out.below hvw
            have gx := G_x.out.below hvw
            go_simp
            refine (H4.out W _ _ _ _ gm.fc gx.fb gm.fd gx.fd).mono ?_
            rintro e w' ⟨v, rfl, hv, hb⟩
            exact ⟨hW.trans (hb.mono hvs), hr.below hb, hv⟩
          · obtain ⟨A1, c1, B1, e1, rfl, -⟩ := hf.form
            have hbv := Below.refl W.heap.size W
            have hvs := Nat.le_trans HW.out.size hW.size
            go_simp
            exact ⟨hW.alloc hvs _, hr.below (hbv.alloc (Nat.le_refl _) _), ⟨_, A1, _, c1, _, B1, _, e1⟩, Reads.new1 W _ 4 _ rfl, hf.below (hbv.alloc (Nat.le_refl _) _)⟩
          · subst hu
            have hsz := hW.size
            obtain ⟨l, h1, h2⟩ := hr.form
            have hlen : l.length = 3 := h2.at_.len
            refine wp_append_any W (.tmp 21) (.tmp 37) _ rfl V.heap.size 27 i0 _ 4 64 Tryz.underlying77 hi hz0 hz1 hz2 rfl (by omega) v5 l.length (cellsF l) rfl h1 W.heap.size (some ⟨g, 0, none⟩) 1 1 q.cells rfl hrd (by simp [FLoc.cells, Value.oneCell']) (by unfold maxLen; omega) (by omega) (by have := HW.out.size; omega) ?_
            intro v' w' ho hg hat
            exact ⟨v', rfl, hW.grown hg (by have := HW.out.size; omega) (fun k hk => (h1.lt k hk).1), GrowF.more hf h1 h2 ho hg⟩
          · obtain ⟨l, h1, h2⟩ := hr.form
            obtain ⟨A1, k1, rfl⟩ := own_form (by omega) h1
            go_simp
            try exact ⟨hW, hr⟩
        · intro us W hus hF
          rw [if_pos (by decide)] at hF
          obtain ⟨u0, u1, u2, u3, rfl⟩ : ∃ u0 u1 u2 u3, us = [u0, u1, u2, u3] := by
            match us, hus with
            | [u0, u1, u2, u3], _ => exact ⟨u0, u1, u2, u3, rfl⟩
          have HG := Hd (show GrowF W V.heap.size u3 ([(N1, D1), (N2, D2), (N3, D3), (N4, D4)].take 4) from hF.2)
          have HW := Hd (HW.out.trans hF.1)
          simp [chainAct2, fill, pairs, valAt2, stepNo, List.filter, Stp.isStep]
          clear hF hus
          go_wp2_with fail
          go_roundw
          case rel => exact ⟨4, _, rfl, by simp, HG, HW⟩
          case measure => simp [intOf]
      · have HF := Hd (GrowF.fl (show GrowF wr V.heap.size v5 [(N1, D1), (N2, D2), (N3, D3), (N4, D4)] from HG.out) (by simp))
        have HB9 := Hd (HB.out.trans (HW.out.mono HB.out.size))
        obtain ⟨g9, c9, cs9, l9, rfl, -⟩ := HF.out.form
        go_wp2_with fail
        go_ret
        exact ⟨_, rfl, HF.out, HB9.out⟩
/- Small functions of the laws. (Written by wip/top/gentops.py.) -/

theorem sameMatrix_true {n1 d1 n2 d2 n3 d3 n4 d4 : Int}  (w : World) (v_x v_y : Value) (g_x : MatAt w v_x n1 d1 n2 d2 n3 d3 n4 d4) (g_y : MatAt w v_y n1 d1 n2 d2 n3 d3 n4 d4)  :
    Calls Tryz.prog 13 #[v_x, v_y] w fun e w' => e = .returned (.bool true) ∧ Below w.heap.size w w' := by
  obtain ⟨Ax1, cx1, Ax2, cx2, Ax3, cx3, Ax4, cx4, Ax5, cx5, Ax6, cx6, Ax7, cx7, Ax8, cx8, rfl, -⟩ := g_x.form
  obtain ⟨Ay1, cy1, Ay2, cy2, Ay3, cy3, Ay4, cy4, Ay5, cy5, Ay6, cy6, Ay7, cy7, Ay8, cy8, rfl, -⟩ := g_y.form
  have G_x := Hd g_x
  have G_y := Hd g_y
  clear g_x g_y
  go_enter Tryz.func13, Tryz.ntmps13
  go_upto_region 1 with fail
  refine boxes2 (P := fun W => Code.wp _ _ _ _ W) fun W p0 p1 b0 => ?_
  have P_x := Hd (Hex.mk p0)
  have P_y := Hd (Hex.mk p1)
  have HB := Hd b0
  clear b0 p0 p1
  obtain ⟨-, a_x0, a_x1, a_x2, a_x3, a_x4, a_x5, a_x6, a_x7, a_x8, a_x9, a_x10, a_x11, a_x12, a_x13, a_x14, a_x15⟩ := P_x.out.facts
  obtain ⟨-, a_y0, a_y1, a_y2, a_y3, a_y4, a_y5, a_y6, a_y7, a_y8, a_y9, a_y10, a_y11, a_y12, a_y13, a_y14, a_y15⟩ := P_y.out.facts
  go_wp2_with fail
  refine (sameFrac_true _ _ n1 d1 W (G_x.out.below HB.out).fa (G_y.out.below HB.out).fa).mono ?_
  rintro e wx1 ⟨rfl, hb⟩
  clear a_x0 a_x1 a_x2 a_x3 a_x4 a_x5 a_x6 a_x7 a_x8 a_x9 a_x10 a_x11 a_x12 a_x13 a_x14 a_x15 a_y0 a_y1 a_y2 a_y3 a_y4 a_y5 a_y6 a_y7 a_y8 a_y9 a_y10 a_y11 a_y12 a_y13 a_y14 a_y15
  have P_x := Hd (P_x.out.below hb)
  have P_y := Hd (P_y.out.below hb)
  have HB := Hd (belowTo HB.out hb)
  clear hb
  obtain ⟨-, a_x0, a_x1, a_x2, a_x3, a_x4, a_x5, a_x6, a_x7, a_x8, a_x9, a_x10, a_x11, a_x12, a_x13, a_x14, a_x15⟩ := P_x.out.facts
  obtain ⟨-, a_y0, a_y1, a_y2, a_y3, a_y4, a_y5, a_y6, a_y7, a_y8, a_y9, a_y10, a_y11, a_y12, a_y13, a_y14, a_y15⟩ := P_y.out.facts
  go_wp2_with fail
  refine (sameFrac_true _ _ n2 d2 wx1 (G_x.out.below HB.out).fb (G_y.out.below HB.out).fb).mono ?_
  rintro e wx2 ⟨rfl, hb⟩
  clear a_x0 a_x1 a_x2 a_x3 a_x4 a_x5 a_x6 a_x7 a_x8 a_x9 a_x10 a_x11 a_x12 a_x13 a_x14 a_x15 a_y0 a_y1 a_y2 a_y3 a_y4 a_y5 a_y6 a_y7 a_y8 a_y9 a_y10 a_y11 a_y12 a_y13 a_y14 a_y15
  have P_x := Hd (P_x.out.below hb)
  have P_y := Hd (P_y.out.below hb)
  have HB := Hd (belowTo HB.out hb)
  clear hb
  obtain ⟨-, a_x0, a_x1, a_x2, a_x3, a_x4, a_x5, a_x6, a_x7, a_x8, a_x9, a_x10, a_x11, a_x12, a_x13, a_x14, a_x15⟩ := P_x.out.facts
  obtain ⟨-, a_y0, a_y1, a_y2, a_y3, a_y4, a_y5, a_y6, a_y7, a_y8, a_y9, a_y10, a_y11, a_y12, a_y13, a_y14, a_y15⟩ := P_y.out.facts
  go_wp2_with fail
  refine (sameFrac_true _ _ n3 d3 wx2 (G_x.out.below HB.out).fc (G_y.out.below HB.out).fc).mono ?_
  rintro e wx3 ⟨rfl, hb⟩
  clear a_x0 a_x1 a_x2 a_x3 a_x4 a_x5 a_x6 a_x7 a_x8 a_x9 a_x10 a_x11 a_x12 a_x13 a_x14 a_x15 a_y0 a_y1 a_y2 a_y3 a_y4 a_y5 a_y6 a_y7 a_y8 a_y9 a_y10 a_y11 a_y12 a_y13 a_y14 a_y15
  have P_x := Hd (P_x.out.below hb)
  have P_y := Hd (P_y.out.below hb)
  have HB := Hd (belowTo HB.out hb)
  clear hb
  obtain ⟨-, a_x0, a_x1, a_x2, a_x3, a_x4, a_x5, a_x6, a_x7, a_x8, a_x9, a_x10, a_x11, a_x12, a_x13, a_x14, a_x15⟩ := P_x.out.facts
  obtain ⟨-, a_y0, a_y1, a_y2, a_y3, a_y4, a_y5, a_y6, a_y7, a_y8, a_y9, a_y10, a_y11, a_y12, a_y13, a_y14, a_y15⟩ := P_y.out.facts
  go_wp2_with fail
  refine (sameFrac_true _ _ n4 d4 wx3 (G_x.out.below HB.out).fd (G_y.out.below HB.out).fd).mono ?_
  rintro e wx4 ⟨rfl, hb⟩
  clear a_x0 a_x1 a_x2 a_x3 a_x4 a_x5 a_x6 a_x7 a_x8 a_x9 a_x10 a_x11 a_x12 a_x13 a_x14 a_x15 a_y0 a_y1 a_y2 a_y3 a_y4 a_y5 a_y6 a_y7 a_y8 a_y9 a_y10 a_y11 a_y12 a_y13 a_y14 a_y15
  have P_x := Hd (P_x.out.below hb)
  have P_y := Hd (P_y.out.below hb)
  have HB := Hd (belowTo HB.out hb)
  clear hb
  go_wp2_with fail
  go_ret
  exact ⟨rfl, HB.out⟩

theorem counted_w (z : Int) (n : Nat) (hn : 0 < n) (hn2 : n ≤ 4611686018427387904) (w : World) :
    Calls Tryz.prog 10 #[.int .i64 z, .int .i64 n] w fun e w' => (∃ k : Nat, k < n ∧ e = .returned (.int .i64 k)) ∧ Below w.heap.size w w' := by
  have h1 : -(n : Int) < z.tmod n := by have := Int.lt_tmod_of_pos z (show (0 : Int) < n by omega); omega
  have h2 : z.tmod n < n := Int.tmod_lt_of_pos z (by omega)
  have h0 : ¬ (n : Int) = 0 := by omega
  by_cases hneg : z.tmod n < 0
  · obtain ⟨k, hk⟩ : ∃ k : Nat, (k : Int) = z.tmod n + n := ⟨(z.tmod n + n).toNat, by omega⟩
    have hkn : k < n := by omega
    have HW := Hd hk
    clear hk
    go_enter Tryz.func10, Tryz.ntmps10
    go_wp2_with fail
    go_ret
    exact ⟨⟨k, hkn, by rw [HW.out]; rfl⟩, Below.refl _ _⟩
  · obtain ⟨k, hk⟩ : ∃ k : Nat, (k : Int) = z.tmod n := ⟨(z.tmod n).toNat, by omega⟩
    have hkn : k < n := by omega
    have HW := Hd hk
    clear hk
    go_enter Tryz.func10, Tryz.ntmps10
    go_wp2_with fail
    go_ret
    exact ⟨⟨k, hkn, by rw [HW.out]; rfl⟩, Below.refl _ _⟩
end Go.Proofs.YtmcnmoljliggfaaGreatDoor
