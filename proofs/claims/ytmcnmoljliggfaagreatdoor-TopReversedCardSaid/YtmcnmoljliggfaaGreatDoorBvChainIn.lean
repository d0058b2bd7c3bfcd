/- As XChain2, within a round of a loop over a function. (Written by wip/base/genchainin.py.) -/
import Derived.Test.YtmcnmoljliggfaaGreatDoorBvMore
import Derived.RangeFuncNested
import Derived.RangeFuncLeaves
import Derived.OrdersIn
import Derived.TacticsIn
namespace Go.Proofs.YtmcnmoljliggfaaGreatDoor
open Go.RowKit

section
variable {P : Program} {ops : Array Oper} {Q : Exit → Act → World → Prop}
theorem rowsIn_round {l n : Nat} {row : String} {args : Array Value} {w : World} {R : Value → World → Prop} (h : Go.Rows P row args w R) : Go.RowsIn (Fence.wide.inRound l) n P row args w R :=
  fun c cs _ => let ⟨v, w', r, s⟩ := h c cs; ⟨v, w', r, stepsIn_wide.2 s⟩
/-- What is no defer statement is carried out in a round as anywhere. -/
theorem oper_in_round {o : Oper} {l n : Nat} {a : Act} {w : World} {K : Act → World → Prop} (hd : ∀ c, o.op ≠ .defer c) (h : o.wp P a w K Q) : o.wpIn (Fence.wide.inRound l) n P a w K Q := by
  refine ⟨fun _ _ => trivial, ?_⟩
  rw [show (Fence.wide.inRound l).round = some l from rfl, Oper.semAt_some l _ o hd]
  unfold Oper.wp at h
  generalize (execOp a.eval o).run P w = r at *
  cases r with
  | ok x w' =>
    cases x <;> simp only [Oper.upon] at h <;> simp only [Oper.uponIn] <;>
      first
        | exact h
        | exact ⟨(fun e => by cases e), CallsIn.inRound l (callsIn_wide.2 h)⟩
        | exact ⟨(fun e => by cases e), rowsIn_round h⟩
  | halt x w' => cases x <;> simp only [Oper.upon] at h <;> simp only [Oper.uponIn] <;> exact h
theorem wpAnyIn_of {md : Region.Mode} {l n : Nat} (hno : ∀ a w, ¬ Q .outgrown a w) (hdf : ∀ (i : Nat) o, ops[i]? = some o → ∀ c, o.op ≠ .defer c) : ∀ (fuel : Nat) (L : Array Bool) (a : Act) (w : World), wpAny P md ops Q fuel L a w → wpAnyIn (Fence.wide.inRound l) n P md ops Q fuel L a w
  | 0, _, _, _, h => h
  | fuel + 1, L, a, w, h => by
    refine ⟨h.1, fun i hi => ?_⟩
    have h1 := h.2 i hi
    unfold wpOp at h1
    unfold wpOpIn
    cases ho : ops[i]? with
    | none =>
      rw [ho] at h1
      exact wpAnyIn_of hno hdf fuel _ _ _ h1
    | some o =>
      rw [ho] at h1
      simp only at h1 ⊢
      split
      · rename_i hw
        rw [if_pos hw] at h1
        rcases h1 with h1 | ⟨-, a', w', h1⟩
        · exact Oper.wpIn_mono (fun a w h => wpAnyIn_of hno hdf fuel _ a w h) (oper_in_round (hdf i o ho) h1)
        · exact (hno a' w' h1).elim
      · rename_i hw
        rw [if_neg hw] at h1
        exact ⟨fun _ _ => trivial, wpAnyIn_of hno hdf fuel _ _ _ h1⟩

theorem wpIn_region_chain2 {l n : Nat} (hno : ∀ a w, ¬ Q .outgrown a w) (hdf : ∀ (i : Nat) o, ops[i]? = some o → ∀ c, o.op ≠ .defer c) {id : Nat} {a0 : Act} {w0 : World} (cl : List Stp) (m0 m : Nat) (R : List Value → World → Prop) (af : List Value → Act) (hm : P.follows .mixedOrders = true) (hlen : cl.length = ops.size)
    (hback : (ops.toList.zipIdx.all fun (o, i) => o.after.all fun e => decide (e.on < i)) = true) (hguard : (ops.all fun o => o.guard.isNone) = true)
    (hdst : nodupB (ops.toList.filterMap (·.dst)) = true) (hroom : (ops.toList.filterMap (·.dst)).all (fun d => decide (d < a0.tmps.size)) = true) (hreads : readsB2 ops cl = true)
    (hvald : ((List.range ops.size).all fun i => stepIs cl i || ((ops[i]?).bind (·.dst)).isSome) = true)
    (hchain : chainB ops cl m0 m = true) (hlast : lastB ops cl m = true) (haf : af = chainAct2 ops cl a0)
    (hR : ∀ us w w', us.length ≤ m0 → R us w → Below w.heap.size w w' → R us w') (h0 : R [] w0.drew)
    (hval : ValOk2 P (af []) m0 R ops.toList cl) (hstep : StepOk P af R 0 ops.toList cl)
    (hend : ∀ us w, us.length = m → R us w → Q .normal (af us) w) :
    (Code.region id ops true).wpIn (Fence.wide.inRound l) n P Q a0 w0 := by
  subst haf
  have hnd := nodupB_spec hdst
  have hdist := dst_inj hnd
  have hroom' : ∀ (i : Nat) o d, ops[i]? = some o → o.dst = some d → d < a0.tmps.size := fun i o d hi hd =>
    of_decide_eq_true (List.all_eq_true.1 hroom d (by rw [List.mem_filterMap]; exact ⟨o, Array.mem_toList_iff.2 (Array.mem_of_getElem? hi), hd⟩))
  refine wpIn_region_any hm (wpAnyIn_of hno hdf _ _ _ _ (wpAny_inv (fun L a w => ∃ us, CI ops cl a0 R m0 m us L a w) hback hguard ?_ ?_ _ _ _ _ (by simp) ?_ ?_))
  · rintro L a w ⟨us, h⟩ i o hi hs hun hp
    have hlt : i < ops.size := (Array.getElem?_eq_some_iff.1 hi).1
    have hL : i < L.size := by omega
    have hun' : L.getD i false = false := by simp [hL] at hun ⊢; exact hun
    have hkeep : ∀ j, j ≠ i → (L.setIfInBounds i true).getD j false = L.getD j false := fun j hj => getD_set_ne false (Ne.symm hj)
    have hci : i < cl.length := by omega
    have hclosed : ∀ (j : Nat) oj, ops[j]? = some oj → (L.setIfInBounds i true).getD j false = true → ∀ e ∈ oj.after, Region.binds .any e = true → (L.setIfInBounds i true).getD e.on false = true := fun j oj hj hLj e he hb => by
      rw [getD_set_iff hL] at hLj ⊢
      rcases hLj with rfl | hLj
      · rw [hi] at hj; injection hj with hj; subst hj
        exact .inr (hp e he hb)
      · exact .inr (h.closed j oj hj hLj e he hb)
    cases hc : stepIs cl i with
    | false =>
      obtain ⟨v, hv⟩ : ∃ v, cl[i]? = some (.val v) := by
        cases hx : cl[i]? with
        | none => simp at hx; omega
        | some c => cases c with
          | val v => exact ⟨v, rfl⟩
          | step => simp [stepIs, hx, Stp.isStep] at hc
      have hle : us.length ≤ m0 := by
        rcases Nat.lt_or_ge m0 us.length with h1 | h1
        · rw [h.early h1 i hlt hc] at hun'; cases hun'
        · exact h1
      obtain ⟨hsel, hev⟩ := h.eval2 hi hun' hreads hnd hroom' hp [] (.inr ⟨hc, rfl⟩)
      obtain ⟨d, hd⟩ : ∃ d, o.dst = some d := by
        have := List.all_eq_true.1 hvald i (List.mem_range.2 hlt)
        simp only [hc, hi, Bool.false_or, Option.bind_some] at this
        exact Option.isSome_iff_exists.1 this
      have h1 := ValOk2.get _ _ hval i (by simpa using hi) hv us w hle h.rel
      unfold Oper.wp at h1
      rw [← execOp_congr o hsel hev] at h1
      have h2 := upon_swap (a2 := a) (Q := Q) hd (by simp only [chainAct2, fill_size]; exact hroom' i o d hi hd) h1
      refine Oper.wp_mono ?_ h2
      rintro a' w' ⟨rfl, hb⟩
      have hva : v = valAt cl us i := by unfold valAt; rw [hv]
      obtain ⟨t1, t2, t3, t4⟩ := h.tmps hi hL hun' hdist hroom' v us (fun _ _ _ _ => rfl) (.inl hva)
      refine ⟨us, t1, t2, t3, t4, fun j hj hcj => ?_, fun hm0 j hj hcj => ?_, h.count, hclosed, hR us w w' hle h.rel hb⟩
      · rw [hkeep j (fun e => by rw [e, hc] at hcj; cases hcj)]; exact h.steps j hj hcj
      · omega
    | true =>
      have hci2 : cl[i]? = some .step := by
        cases hx : cl[i]? with
        | none => simp at hx; omega
        | some c => cases c with
          | val v => simp [stepIs, hx, Stp.isStep] at hc
          | step => rfl
      have hch := List.all_eq_true.1 hchain i (List.mem_range.2 hlt)
      simp only [hc, hi, Bool.not_true, Bool.false_or, Bool.and_eq_true, Bool.or_eq_true, decide_eq_true_eq, beq_iff_eq] at hch
      obtain ⟨⟨⟨hkm, hprev⟩, hall⟩, hinj⟩ := hch
      have hge : us.length ≤ stepNo cl i := by
        rcases Nat.lt_or_ge (stepNo cl i) us.length with h1 | h1
        · rw [(h.steps i hlt hc).2 h1] at hun'; cases hun'
        · exact h1
      have hk : us.length = stepNo cl i := by
        rcases hprev with h1 | h1
        · omega
        · rw [List.any_eq_true] at h1
          obtain ⟨j, hj, h2⟩ := h1
          simp only [Bool.and_eq_true, beq_iff_eq] at h2
          obtain ⟨⟨h3, h4⟩, h5⟩ := h2
          obtain ⟨e, he, hb, rfl⟩ := any_edge h5
          have := (h.steps e.on (List.mem_range.1 hj) h3).1 (hp e he hb)
          omega
      obtain ⟨hsel, hev⟩ := h.eval2 hi hun' hreads hnd hroom' hp us (.inl rfl)
      have h1 := StepOk.get _ _ 0 hstep i (by simpa using hi) hci2 us w (by omega) h.rel
      unfold Oper.wp at h1
      rw [← execOp_congr o hsel hev] at h1
      have h2 := upon_step (a2 := a) (Q := Q) (by intro d hd; simp only [chainAct2, fill_size]; exact hroom' i o d hi hd) h1
      refine Oper.wp_mono ?_ h2
      rintro a' w' ⟨u, rfl, hr⟩
      have hua : u = valAt cl (us ++ [u]) i := by
        unfold valAt; rw [hci2]; simp [List.getD_eq_getElem?_getD, ← hk]
      have husame : ∀ (j : Nat) oj, ops[j]? = some oj → L.getD j false = true → valAt cl (us ++ [u]) j = valAt cl us j := fun j oj hj hLj =>
        valAt_more fun hcj => (h.steps j (Array.getElem?_eq_some_iff.1 hj).1 hcj).1 hLj
      obtain ⟨t1, t2, t3, t4⟩ := h.tmps hi hL hun' hdist hroom' u (us ++ [u]) husame (.inl hua)
      refine ⟨us ++ [u], t1, t2, t3, t4, fun j hj hcj => ?_, fun hm0 j hj hcj => ?_, by simp; omega, hclosed, hr⟩
      · by_cases hji : j = i
        · subst hji
          simp [hL, hk]
        · rw [hkeep j hji, h.steps j hj hcj]
          have h3 := List.all_eq_true.1 hinj j (List.mem_range.2 hj)
          simp only [hcj, Bool.not_true, Bool.false_or, Bool.or_eq_true, bne_iff_ne, ne_eq, beq_iff_eq] at h3
          have h4 := h3.resolve_right hji
          simp; omega
      · rw [hkeep j (fun e => by rw [e, hc] at hcj; cases hcj)]
        simp at hm0
        rcases hall with h3 | h3
        · exact h.early (by omega) j hj hcj
        · have h4 := List.all_eq_true.1 h3 j (List.mem_range.2 hj)
          simp only [hcj, Bool.false_or, Bool.or_eq_true] at h4
          rcases h4 with h4 | h4
          · obtain ⟨e, he, hb, rfl⟩ := any_edge h4
            exact hp e he hb
          · exact reach_done h.closed 4 o hp h4
  · rintro L a w ⟨us, h⟩ hdone
    have hum : us.length = m := by
      have := h.count
      unfold lastB at hlast
      simp only [Bool.or_eq_true, beq_iff_eq, List.any_eq_true, Bool.and_eq_true] at hlast
      rcases hlast with h1 | ⟨i, h1, h2, h3⟩
      · omega
      · have := (h.steps i (List.mem_range.1 h1) h2).1 (hdone i (List.mem_range.1 h1))
        omega
    have hact : a = chainAct2 ops cl a0 us := by
      obtain ⟨t, d⟩ := a
      have h1 := h.defers
      simp only at h1
      subst h1
      unfold chainAct2
      have h2 := fill_unique (pairs ops fun i => valAt2 cl us i) (pairs_nodup _ hnd) a0.tmps t h.size (fun d hd => ?_) (fun p hp _ => ?_)
      · rw [← h2]
      · refine h.out d fun i o hi _ hd2 => ?_
        exact hd _ (pairs_has hi hd2 (valAt2_done fun hc => (h.steps i (Array.getElem?_eq_some_iff.1 hi).1 hc).1 (hdone i (Array.getElem?_eq_some_iff.1 hi).1))) rfl
      · obtain ⟨i, o, hi, hd, hv⟩ := pairs_mem hp
        have := h.inn i o p.1 hi (hdone i (Array.getElem?_eq_some_iff.1 hi).1) hd
        rw [this, valAt2_of hv]
    rw [hact]
    exact hend us w hum h.rel
  · have : (List.filter (fun i => !(Array.replicate ops.size false).getD i false) (List.range ops.size)).length ≤ (List.range ops.size).length := List.length_filter_le _ _
    unfold unlisted
    simpa using this
  · have hno : ∀ i, (Array.replicate ops.size false).getD i false = true → False := fun i hL => by
      simp at hL; rcases Nat.lt_or_ge i ops.size with h | h <;> simp [h] at hL
    refine ⟨[], rfl, rfl, fun _ _ => rfl, fun i o d _ hL _ => (hno i hL).elim, fun i _ _ => ⟨fun hL => (hno i hL).elim, fun h => by simp at h⟩, fun h => by simp at h, by simp, fun i o _ hL => (hno i hL).elim, h0⟩


theorem wpIn_region_stepsC {l n : Nat} (hno : ∀ a w, ¬ Q .outgrown a w) (hdf : ∀ (i : Nat) o, ops[i]? = some o → ∀ c, o.op ≠ .defer c) {id : Nat} {a0 : Act} {w0 : World} (cl : List Stp) (m0 m : Nat) (B : Nat) (W : World) (hB : B ≤ W.heap.size) (G F : List Value → World → Prop) (af : List Value → Act) (hm : P.follows .mixedOrders = true) (hlen : cl.length = ops.size)
    (hback : (ops.toList.zipIdx.all fun (o, i) => o.after.all fun e => decide (e.on < i)) = true) (hguard : (ops.all fun o => o.guard.isNone) = true)
    (hdst : nodupB (ops.toList.filterMap (·.dst)) = true) (hroom : (ops.toList.filterMap (·.dst)).all (fun d => decide (d < a0.tmps.size)) = true) (hreads : readsB2 ops cl = true)
    (hvald : ((List.range ops.size).all fun i => stepIs cl i || ((ops[i]?).bind (·.dst)).isSome) = true)
    (hchain : chainB ops cl m0 m = true) (hlast : lastB ops cl m = true) (haf : af = chainAct2 ops cl a0)
    (hG : ∀ us w w', G us w → Below w.heap.size w w' → G us w') (h0 : Below B W w0) (hg0 : G [] w0.drew)
    (hval : ValsOk P (af []) B W ops.toList cl) (hstep : StepsOk P af B W G F m0 [] ops.toList cl)
    (hend : ∀ us w, us.length = m → (if m ≤ m0 then Below B W w ∧ G us w else F us w) → Q .normal (af us) w) :
    (Code.region id ops true).wpIn (Fence.wide.inRound l) n P Q a0 w0 := by
  refine wpIn_region_chain2 hno hdf cl m0 m (chainR B W G F m0) af hm hlen hback hguard hdst hroom hreads hvald hchain hlast haf ?_ ?_ (ValsOk.to _ _ hval) (StepsOk.to _ _ 0 fun us hus => ?_) fun us w hus hr => hend us w hus ?_
  · intro us w w' hus hr hb
    unfold chainR at hr ⊢
    rw [if_pos hus] at hr ⊢
    exact ⟨hr.1.trans (hb.mono (Nat.le_trans hB hr.1.size)), hG us w w' hr.2 hb⟩
  · unfold chainR
    rw [if_pos (by simp)]
    exact ⟨h0.drew, hg0⟩
  · obtain rfl := List.eq_nil_of_length_eq_zero hus
    exact hstep
  · unfold chainR at hr
    rw [hus] at hr; exact hr
end
end Go.Proofs.YtmcnmoljliggfaaGreatDoor
