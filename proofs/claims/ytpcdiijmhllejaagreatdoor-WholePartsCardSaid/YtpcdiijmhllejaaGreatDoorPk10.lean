/- Several texts in one: Chain. -/
import Derived.Test.YtpcdiijmhllejaaGreatDoorPk09
/- A region that draws its order, in which all that makes or changes memory comes one behind the other: each such step may hand back whatever it likes. -/
namespace Go.Proofs.YtpcdiijmhllejaaGreatDoor
open Go.RowKit

section
variable {P : Program} {ops : Array Oper} {Q : Exit → Act → World → Prop}

/-- What an operation of such a region is: a value that does not hang on the order; a step. -/
inductive Stp where
  | val (v : Value)
  | step
def Stp.isStep : Stp → Bool
  | .step => true
  | _ => false
def stepNo (cl : List Stp) (i : Nat) : Nat := ((cl.take i).filter Stp.isStep).length
def stepIs (cl : List Stp) (i : Nat) : Bool := ((cl[i]?).map Stp.isStep).getD false
def valIs (cl : List Stp) (i : Nat) : Bool := ((cl[i]?).map fun c => !c.isStep).getD false
def valAt (cl : List Stp) (us : List Value) (i : Nat) : Value := match cl[i]? with
  | some (.val v) => v
  | some .step => us.getD (stepNo cl i) undef
  | none => undef
def edgeB (o : Oper) (k : Nat) : Bool := o.after.any fun e => Region.binds .any e && e.on == k
def readsB (ops : Array Oper) (cl : List Stp) : Bool := (List.range ops.size).all fun i => match ops[i]? with
  | some o => (match o.op with | .select _ _ => false | _ => true) && o.op.operands.all fun x => match x with
    | .tmp t => (ops.all fun o' => o'.dst != some t) || o.after.any fun e => Region.binds .any e && ((ops[e.on]?).bind (·.dst) == some t) && (valIs cl e.on || stepIs cl i)
    | _ => true
  | none => true
/-- .. or one behind another. -/
def reachB (ops : Array Oper) : Nat → Oper → Nat → Bool
  | 0, _, _ => false
  | f + 1, o, k => o.after.any fun e => Region.binds .any e && (e.on == k || match ops[e.on]? with
    | some o' => reachB ops f o' k
    | none => false)
theorem reach_done {L : Array Bool} (hcl : ∀ (i : Nat) o, ops[i]? = some o → L.getD i false = true → ∀ e ∈ o.after, Region.binds .any e = true → L.getD e.on false = true) {k : Nat} : ∀ (f : Nat) (o : Oper), (∀ e ∈ o.after, Region.binds .any e = true → L.getD e.on false = true) → reachB ops f o k = true → L.getD k false = true
  | 0, _, _, h => by simp [reachB] at h
  | f + 1, o, hp, h => by
    unfold reachB at h
    rw [← Array.any_toList, List.any_eq_true] at h
    obtain ⟨e, he, h3⟩ := h
    rw [Array.mem_toList_iff] at he
    simp only [Bool.and_eq_true, Bool.or_eq_true, beq_iff_eq] at h3
    obtain ⟨hb, h4⟩ := h3
    rcases h4 with rfl | h4
    · exact hp e he hb
    · cases ho : ops[e.on]? with
      | none => simp [ho] at h4
      | some o' =>
        rw [ho] at h4
        exact reach_done hcl f o' (hcl e.on o' ho (hp e he hb)) h4
/-- The steps come one behind the other; those from m0 on wait for all values. -/
def chainB (ops : Array Oper) (cl : List Stp) (m0 m : Nat) : Bool := (List.range ops.size).all fun i => !stepIs cl i || (match ops[i]? with
  | some o => decide (stepNo cl i < m) && (stepNo cl i == 0 || (List.range ops.size).any fun j => stepIs cl j && stepNo cl j + 1 == stepNo cl i && edgeB o j) &&
      (decide (stepNo cl i < m0) || (List.range ops.size).all fun j => stepIs cl j || edgeB o j || reachB ops 4 o j) && (List.range ops.size).all fun j => !stepIs cl j || stepNo cl j != stepNo cl i || j == i
  | none => false)
def lastB (ops : Array Oper) (cl : List Stp) (m : Nat) : Bool := m == 0 || (List.range ops.size).any fun i => stepIs cl i && stepNo cl i + 1 == m

theorem upon_step {o : Oper} {a1 a2 : Act} {S : Value → World → Prop} (hl : ∀ d, o.dst = some d → d < a1.tmps.size) {r : Result Next}
    (h : o.upon P a1 (fun a' w' => ∃ u, a' = a1.put o.dst u ∧ S u w') (fun _ _ _ => False) r) : o.upon P a2 (fun a' w' => ∃ u, a' = a2.put o.dst u ∧ S u w') Q r := by
  have key : ∀ u w', (∃ v, a1.put o.dst u = a1.put o.dst v ∧ S v w') → ∃ v, a2.put o.dst u = a2.put o.dst v ∧ S v w' := fun u w' ⟨v, e, hs⟩ => by
    cases hd : o.dst with
    | none => exact ⟨v, rfl, hs⟩
    | some d =>
      have hl := hl d hd
      rw [hd] at e
      have := congrArg (fun a : Act => a.tmps[d]?) e
      have e2 : u = v := by simpa [Act.put, hl] using this
      subst e2
      exact ⟨u, rfl, hs⟩
  cases r with
  | ok n w' =>
    cases n <;> simp only [Oper.upon] at h ⊢
    case value u => exact key u w' h
    case skip => exact key _ w' h
    case defer dd =>
      obtain ⟨v, e, _⟩ := h
      have := congrArg (fun a : Act => a.defers.length) e
      cases hd : o.dst <;> rw [hd] at this <;> simp [Act.put] at this
    case enter f args =>
      refine Calls.mono h fun e w'' he => ?_
      cases e with
      | returned u => exact key u w'' he
      | panicked c => exact he.elim
      | outgrown => obtain ⟨_, _, hf⟩ := he; exact hf.elim
    case row row args => exact Rows.mono h fun u w'' he => key u w'' he
  | halt x w' => cases x <;> simp only [Oper.upon] at h ⊢

structure CI (ops : Array Oper) (cl : List Stp) (a0 : Act) (R : List Value → World → Prop) (m0 m : Nat) (us : List Value) (L : Array Bool) (a : Act) (w : World) : Prop where
  defers : a.defers = a0.defers
  size : a.tmps.size = a0.tmps.size
  out : ∀ t, (∀ (i : Nat) o, ops[i]? = some o → L.getD i false = true → o.dst ≠ some t) → a.tmps[t]? = a0.tmps[t]?
  inn : ∀ (i : Nat) o d, ops[i]? = some o → L.getD i false = true → o.dst = some d → a.tmps[d]? = some (valAt cl us i)
  steps : ∀ i, i < ops.size → stepIs cl i = true → (L.getD i false = true ↔ stepNo cl i < us.length)
  early : m0 < us.length → ∀ i, i < ops.size → stepIs cl i = false → L.getD i false = true
  count : us.length ≤ m
  closed : ∀ (i : Nat) o, ops[i]? = some o → L.getD i false = true → ∀ e ∈ o.after, Region.binds .any e = true → L.getD e.on false = true
  rel : R us w

section
variable {cl : List Stp} {a0 : Act} {R : List Value → World → Prop} {m0 m : Nat} {us : List Value} {L : Array Bool} {a : Act} {w : World}
theorem CI.tmps {i : Nat} {o : Oper} (h : CI ops cl a0 R m0 m us L a w) (hi : ops[i]? = some o) (hL : i < L.size) (hun : L.getD i false = false)
    (hdist : ∀ (i j : Nat) oi oj d, ops[i]? = some oi → ops[j]? = some oj → oi.dst = some d → oj.dst = some d → i = j) (hroom : ∀ (i : Nat) o d, ops[i]? = some o → o.dst = some d → d < a0.tmps.size)
    (v : Value) (us' : List Value) (hus : ∀ (j : Nat) oj, ops[j]? = some oj → L.getD j false = true → valAt cl us' j = valAt cl us j) (hv : v = valAt cl us' i ∨ o.dst = none) :
    (a.put o.dst v).defers = a0.defers ∧ (a.put o.dst v).tmps.size = a0.tmps.size ∧
    (∀ t, (∀ (k : Nat) ok, ops[k]? = some ok → (L.setIfInBounds i true).getD k false = true → ok.dst ≠ some t) → (a.put o.dst v).tmps[t]? = a0.tmps[t]?) ∧
    (∀ (k : Nat) ok d, ops[k]? = some ok → (L.setIfInBounds i true).getD k false = true → ok.dst = some d → (a.put o.dst v).tmps[d]? = some (valAt cl us' k)) := by
  refine ⟨?_, ?_, fun t ht => ?_, fun k ok d hk hLk hd => ?_⟩
  · cases hd : o.dst <;> simp [Act.put, h.defers]
  · cases hd : o.dst <;> simp [Act.put, h.size]
  · have h1 := ht i o hi ((getD_set_iff hL).2 (.inl rfl))
    have h2 := h.out t fun k ok hk hLk => ht k ok hk ((getD_set_iff hL).2 (.inr hLk))
    cases hd : o.dst with
    | none => exact h2
    | some d =>
      rw [← h2]
      simp only [Act.put]
      exact Array.getElem?_setIfInBounds_ne (fun e => h1 (by rw [hd, e]))
  · rcases (getD_set_iff hL).1 hLk with rfl | hLk2
    · rw [hi] at hk; injection hk with hk; subst hk
      rcases hv with hv | hv
      · rw [hd, ← hv]
        have := hroom k o d hi hd
        simp [Act.put, h.size, this]
      · rw [hv] at hd; cases hd
    · have hne : k ≠ i := fun e => by rw [e, hun] at hLk2; cases hLk2
      rw [hus k ok hk hLk2, ← h.inn k ok d hk hLk2 hd]
      cases hdo : o.dst with
      | none => rfl
      | some d' =>
        simp only [Act.put]
        exact Array.getElem?_setIfInBounds_ne (fun e => hne (hdist k i ok o d hk hi hd (by rw [hdo, e])))

/-- The frame with what is known of it. -/
def chainAct (ops : Array Oper) (cl : List Stp) (a0 : Act) (us : List Value) : Act := ⟨fill a0.tmps (pairs ops fun i => some (valAt cl us i)), a0.defers⟩

theorem CI.eval {i : Nat} {o : Oper} (h : CI ops cl a0 R m0 m us L a w) (hi : ops[i]? = some o) (hreads : readsB ops cl = true) (hdst : (ops.toList.filterMap (·.dst)).Nodup)
    (hroom : ∀ (i : Nat) o d, ops[i]? = some o → o.dst = some d → d < a0.tmps.size) (hp : ∀ e ∈ o.after, Region.binds .any e = true → L.getD e.on false = true)
    (us' : List Value) (hus : us' = us ∨ stepIs cl i = false) :
    (∀ cs b, o.op ≠ .select cs b) ∧ ∀ x ∈ o.op.operands, a.eval x = (chainAct ops cl a0 us').eval x := by
  have hlt : i < ops.size := (Array.getElem?_eq_some_iff.1 hi).1
  have h1 := List.all_eq_true.1 hreads i (List.mem_range.2 hlt)
  simp only [hi, Bool.and_eq_true] at h1
  obtain ⟨hsel, hops⟩ := h1
  refine ⟨fun cs b e => by rw [e] at hsel; simp at hsel, fun x hx => ?_⟩
  rw [Array.all_eq_true_iff_forall_mem] at hops
  have h2 := hops x hx
  cases x with
  | tmp t =>
    simp only [Bool.or_eq_true] at h2
    rcases h2 with h2 | h2
    · rw [Array.all_eq_true_iff_forall_mem] at h2
      have hno : ∀ (k : Nat) ok, ops[k]? = some ok → ok.dst ≠ some t := fun k ok hk e => by
        have := h2 ok (Array.mem_of_getElem? hk)
        simp [e] at this
      have e1 := h.out t fun k ok hk _ => hno k ok hk
      have e2 := fill_other (pairs ops fun i => some (valAt cl us' i)) t a0.tmps fun p hp e => by
        obtain ⟨k, ok, hk, hd, _⟩ := pairs_mem hp
        exact hno k ok hk (by rw [hd, e])
      simp [Act.eval, Array.getD_eq_getD_getElem?, chainAct, e1, e2]
    · rw [← Array.any_toList, List.any_eq_true] at h2
      obtain ⟨e, he, h3⟩ := h2
      rw [Array.mem_toList_iff] at he
      simp only [Bool.and_eq_true, Bool.or_eq_true, beq_iff_eq] at h3
      obtain ⟨⟨hb, hd⟩, hv⟩ := h3
      cases hoe : ops[e.on]? with
      | none => simp [hoe] at hd
      | some oe =>
        simp only [hoe, Option.bind_some] at hd
        have e1 := h.inn e.on oe t hoe (hp e he hb) hd
        have e2 := fill_at (pairs ops fun i => some (valAt cl us' i)) (pairs_nodup _ hdst) t (valAt cl us' e.on) a0.tmps (hroom _ _ _ hoe hd) (pairs_has hoe hd rfl)
        have e3 : valAt cl us' e.on = valAt cl us e.on := by
          rcases hus with rfl | hus
          · rfl
          · rcases hv with hv | hv
            · unfold valIs at hv
              unfold valAt
              cases hc : cl[e.on]? with
              | none => simp [hc] at hv
              | some c => cases c with
                | val v => rfl
                | step => simp [hc, Stp.isStep] at hv
            · rw [hus] at hv; cases hv
        rw [e3] at e2
        simp [Act.eval, Array.getD_eq_getD_getElem?, chainAct, e1, e2]
  | _ => rfl
end

theorem valAt_more {cl : List Stp} {us : List Value} {u : Value} {i : Nat} (h : stepIs cl i = true → stepNo cl i < us.length) : valAt cl (us ++ [u]) i = valAt cl us i := by
  unfold valAt
  cases hc : cl[i]? with
  | none => rfl
  | some c => cases c with
    | val v => rfl
    | step =>
      have := h (by simp [stepIs, hc, Stp.isStep])
      simp [List.getD_eq_getElem?_getD, List.getElem?_append_left this]

def ValOk2 (P : Program) (af : Act) (m0 : Nat) (R : List Value → World → Prop) : List Oper → List Stp → Prop
  | o :: os, .val v :: cs => (∀ us w, us.length ≤ m0 → R us w → o.wp P af w (fun a' w' => a' = af.put o.dst v ∧ Below w.heap.size w w') (fun _ _ _ => False)) ∧ ValOk2 P af m0 R os cs
  | _ :: os, .step :: cs => ValOk2 P af m0 R os cs
  | _, _ => True
def StepOk (P : Program) (af : List Value → Act) (R : List Value → World → Prop) : Nat → List Oper → List Stp → Prop
  | k, o :: os, .step :: cs => (∀ us w, us.length = k → R us w → o.wp P (af us) w (fun a' w' => ∃ u, a' = (af us).put o.dst u ∧ R (us ++ [u]) w') (fun _ _ _ => False)) ∧ StepOk P af R (k + 1) os cs
  | k, _ :: os, .val _ :: cs => StepOk P af R k os cs
  | _, _, _ => True
theorem ValOk2.get {af : Act} {m0 : Nat} {R : List Value → World → Prop} {v : Value} {o : Oper} : ∀ (os : List Oper) (cs : List Stp), ValOk2 P af m0 R os cs → ∀ i : Nat, os[i]? = some o → cs[i]? = some (.val v) → ∀ us w, us.length ≤ m0 → R us w → o.wp P af w (fun a' w' => a' = af.put o.dst v ∧ Below w.heap.size w w') (fun _ _ _ => False)
  | [], _, _, i, h1, _ => by simp at h1
  | _ :: _, [], _, i, _, h2 => by simp at h2
  | o' :: os, c :: cs, h, 0, h1, h2 => by
    simp at h1 h2; subst h1 h2
    exact h.1
  | o' :: os, c :: cs, h, i + 1, h1, h2 => by
    have h' : ValOk2 P af m0 R os cs := by cases c <;> first | exact h.2 | exact h
    exact ValOk2.get os cs h' i (by simpa using h1) (by simpa using h2)
theorem StepOk.get {af : List Value → Act} {R : List Value → World → Prop} {o : Oper} : ∀ (os : List Oper) (cs : List Stp) (k : Nat), StepOk P af R k os cs → ∀ i : Nat, os[i]? = some o → cs[i]? = some .step → ∀ us w, us.length = k + stepNo cs i → R us w → o.wp P (af us) w (fun a' w' => ∃ u, a' = (af us).put o.dst u ∧ R (us ++ [u]) w') (fun _ _ _ => False)
  | [], _, _, _, i, h1, _ => by simp at h1
  | _ :: _, [], _, _, i, _, h2 => by simp at h2
  | o' :: os, c :: cs, k, h, 0, h1, h2 => by
    simp at h1 h2; subst h1 h2
    intro us w hu
    exact h.1 us w (by simpa [stepNo] using hu)
  | o' :: os, c :: cs, k, h, i + 1, h1, h2 => by
    intro us w hu hr
    cases c with
    | val v =>
      have h' : StepOk P af R k os cs := h
      exact StepOk.get os cs k h' i (by simpa using h1) (by simpa using h2) us w (by simpa [stepNo, Stp.isStep] using hu) hr
    | step =>
      exact StepOk.get os cs (k + 1) h.2 i (by simpa using h1) (by simpa using h2) us w (by rw [hu]; show _ = k + 1 + _; unfold stepNo; rw [List.take_succ_cons, List.filter_cons_of_pos rfl, List.length_cons]; omega) hr

theorem wp_region_chain {id : Nat} {a0 : Act} {w0 : World} (cl : List Stp) (m0 m : Nat) (R : List Value → World → Prop) (af : List Value → Act) (hm : P.follows .mixedOrders = true) (hlen : cl.length = ops.size)
    (hback : (ops.toList.zipIdx.all fun (o, i) => o.after.all fun e => decide (e.on < i)) = true) (hguard : (ops.all fun o => o.guard.isNone) = true)
    (hdst : nodupB (ops.toList.filterMap (·.dst)) = true) (hroom : (ops.toList.filterMap (·.dst)).all (fun d => decide (d < a0.tmps.size)) = true) (hreads : readsB ops cl = true)
    (hvald : ((List.range ops.size).all fun i => stepIs cl i || ((ops[i]?).bind (·.dst)).isSome) = true)
    (hchain : chainB ops cl m0 m = true) (hlast : lastB ops cl m = true) (haf : af = chainAct ops cl a0)
    (hR : ∀ us w w', us.length ≤ m0 → R us w → Below w.heap.size w w' → R us w') (h0 : R [] w0.drew)
    (hval : ValOk2 P (af []) m0 R ops.toList cl) (hstep : StepOk P af R 0 ops.toList cl)
    (hend : ∀ us w, us.length = m → R us w → Q .normal (af us) w) :
    (Code.region id ops true).wp P Q a0 w0 := by
  subst haf
  have hnd := nodupB_spec hdst
  have hdist := dst_inj hnd
  have hroom' : ∀ (i : Nat) o d, ops[i]? = some o → o.dst = some d → d < a0.tmps.size := fun i o d hi hd =>
    of_decide_eq_true (List.all_eq_true.1 hroom d (by rw [List.mem_filterMap]; exact ⟨o, Array.mem_toList_iff.2 (Array.mem_of_getElem? hi), hd⟩))
  refine wp_region_any hm (wpAny_inv (fun L a w => ∃ us, CI ops cl a0 R m0 m us L a w) hback hguard ?_ ?_ _ _ _ _ (by simp) ?_ ?_)
  · rintro L a w ⟨us, h⟩ i o hi hs hun hp
    have hlt : i < ops.size := (Array.getElem?_eq_some_iff.1 hi).1
    have hL : i < L.size := by omega
    have hun' : L.getD i false = false := by simp [hL] at hun ⊢; exact hun
    have hkeep : ∀ j, j ≠ i → (L.setIfInBounds i true).getD j false = L.getD j false := fun j hj => getD_set_ne false (Ne.symm hj)
    have hci : i < cl.length := by omega
    have hclosed : ∀ (j : Nat) oj, ops[j]? = some oj → (L.setIfInBounds i true).getD j false = true → ∀ e ∈ oj.after, Region.binds .any e = true → (L.setIfInBounds i true).getD e.on false = true := fun j oj hj hLj e he hb => by
      rw [getD_set_iff hL] at hLj ⊢
      rcases hLj with rfl | hLj
      · rw [hi] at hj; injection hj with hj; subst hj
        exact .inr (hp e he hb)
      · exact .inr (h.closed j oj hj hLj e he hb)
    cases hc : stepIs cl i with
    | false =>
      obtain ⟨v, hv⟩ : ∃ v, cl[i]? = some (.val v) := by
        cases hx : cl[i]? with
        | none => simp at hx; omega
        | some c => cases c with
          | val v => exact ⟨v, rfl⟩
          | step => simp [stepIs, hx, Stp.isStep] at hc
      have hle : us.length ≤ m0 := by
        rcases Nat.lt_or_ge m0 us.length with h1 | h1
        · rw [h.early h1 i hlt hc] at hun'; cases hun'
        · exact h1
      obtain ⟨hsel, hev⟩ := h.eval hi hreads hnd hroom' hp [] (.inr hc)
      obtain ⟨d, hd⟩ : ∃ d, o.dst = some d := by
        have := List.all_eq_true.1 hvald i (List.mem_range.2 hlt)
        simp only [hc, hi, Bool.false_or, Option.bind_some] at this
        exact Option.isSome_iff_exists.1 this
      have h1 := ValOk2.get _ _ hval i (by simpa using hi) hv us w hle h.rel
      unfold Oper.wp at h1
      rw [← execOp_congr o hsel hev] at h1
      have h2 := upon_swap (a2 := a) (Q := Q) hd (by simp only [chainAct, fill_size]; exact hroom' i o d hi hd) h1
      refine Oper.wp_mono ?_ h2
      rintro a' w' ⟨rfl, hb⟩
      have hva : v = valAt cl us i := by unfold valAt; rw [hv]
      obtain ⟨t1, t2, t3, t4⟩ := h.tmps hi hL hun' hdist hroom' v us (fun _ _ _ _ => rfl) (.inl hva)
      refine ⟨us, t1, t2, t3, t4, fun j hj hcj => ?_, fun hm0 j hj hcj => ?_, h.count, hclosed, hR us w w' hle h.rel hb⟩
      · rw [hkeep j (fun e => by rw [e, hc] at hcj; cases hcj)]; exact h.steps j hj hcj
      · omega
    | true =>
      have hci2 : cl[i]? = some .step := by
        cases hx : cl[i]? with
        | none => simp at hx; omega
        | some c => cases c with
          | val v => simp [stepIs, hx, Stp.isStep] at hc
          | step => rfl
      have hch := List.all_eq_true.1 hchain i (List.mem_range.2 hlt)
      simp only [hc, hi, Bool.not_true, Bool.false_or, Bool.and_eq_true, Bool.or_eq_true, decide_eq_true_eq, beq_iff_eq] at hch
      obtain ⟨⟨⟨hkm, hprev⟩, hall⟩, hinj⟩ := hch
      have hge : us.length ≤ stepNo cl i := by
        rcases Nat.lt_or_ge (stepNo cl i) us.length with h1 | h1
        · rw [(h.steps i hlt hc).2 h1] at hun'; cases hun'
        · exact h1
      have hk : us.length = stepNo cl i := by
        rcases hprev with h1 | h1
        · omega
        · rw [List.any_eq_true] at h1
          obtain ⟨j, hj, h2⟩ := h1
          simp only [Bool.and_eq_true, beq_iff_eq] at h2
          obtain ⟨⟨h3, h4⟩, h5⟩ := h2
          obtain ⟨e, he, hb, rfl⟩ := any_edge h5
          have := (h.steps e.on (List.mem_range.1 hj) h3).1 (hp e he hb)
          omega
      obtain ⟨hsel, hev⟩ := h.eval hi hreads hnd hroom' hp us (.inl rfl)
      have h1 := StepOk.get _ _ 0 hstep i (by simpa using hi) hci2 us w (by omega) h.rel
      unfold Oper.wp at h1
      rw [← execOp_congr o hsel hev] at h1
      have h2 := upon_step (a2 := a) (Q := Q) (by intro d hd; simp only [chainAct, fill_size]; exact hroom' i o d hi hd) h1
      refine Oper.wp_mono ?_ h2
      rintro a' w' ⟨u, rfl, hr⟩
      have hua : u = valAt cl (us ++ [u]) i := by
        unfold valAt; rw [hci2]; simp [List.getD_eq_getElem?_getD, ← hk]
      have husame : ∀ (j : Nat) oj, ops[j]? = some oj → L.getD j false = true → valAt cl (us ++ [u]) j = valAt cl us j := fun j oj hj hLj =>
        valAt_more fun hcj => (h.steps j (Array.getElem?_eq_some_iff.1 hj).1 hcj).1 hLj
      obtain ⟨t1, t2, t3, t4⟩ := h.tmps hi hL hun' hdist hroom' u (us ++ [u]) husame (.inl hua)
      refine ⟨us ++ [u], t1, t2, t3, t4, fun j hj hcj => ?_, fun hm0 j hj hcj => ?_, by simp; omega, hclosed, hr⟩
      · by_cases hji : j = i
        · subst hji
          simp [hL, hk]
        · rw [hkeep j hji, h.steps j hj hcj]
          have h3 := List.all_eq_true.1 hinj j (List.mem_range.2 hj)
          simp only [hcj, Bool.not_true, Bool.false_or, Bool.or_eq_true, bne_iff_ne, ne_eq, beq_iff_eq] at h3
          have h4 := h3.resolve_right hji
          simp; omega
      · rw [hkeep j (fun e => by rw [e, hc] at hcj; cases hcj)]
        simp at hm0
        rcases hall with h3 | h3
        · exact h.early (by omega) j hj hcj
        · have h4 := List.all_eq_true.1 h3 j (List.mem_range.2 hj)
          simp only [hcj, Bool.false_or, Bool.or_eq_true] at h4
          rcases h4 with h4 | h4
          · obtain ⟨e, he, hb, rfl⟩ := any_edge h4
            exact hp e he hb
          · exact reach_done h.closed 4 o hp h4
  · rintro L a w ⟨us, h⟩ hdone
    have hum : us.length = m := by
      have := h.count
      unfold lastB at hlast
      simp only [Bool.or_eq_true, beq_iff_eq, List.any_eq_true, Bool.and_eq_true] at hlast
      rcases hlast with h1 | ⟨i, h1, h2, h3⟩
      · omega
      · have := (h.steps i (List.mem_range.1 h1) h2).1 (hdone i (List.mem_range.1 h1))
        omega
    have hact : a = chainAct ops cl a0 us := by
      obtain ⟨t, d⟩ := a
      have h1 := h.defers
      simp only at h1
      subst h1
      unfold chainAct
      have h2 := fill_unique (pairs ops fun i => some (valAt cl us i)) (pairs_nodup _ hnd) a0.tmps t h.size (fun d hd => ?_) (fun p hp _ => ?_)
      · rw [← h2]
      · refine h.out d fun i o hi _ hd2 => ?_
        exact hd _ (pairs_has hi hd2 rfl) rfl
      · obtain ⟨i, o, hi, hd, hv⟩ := pairs_mem hp
        have := h.inn i o p.1 hi (hdone i (Array.getElem?_eq_some_iff.1 hi).1) hd
        rw [this]; exact hv
    rw [hact]
    exact hend us w hum h.rel
  · have : (List.filter (fun i => !(Array.replicate ops.size false).getD i false) (List.range ops.size)).length ≤ (List.range ops.size).length := List.length_filter_le _ _
    unfold unlisted
    simpa using this
  · have hno : ∀ i, (Array.replicate ops.size false).getD i false = true → False := fun i hL => by
      simp at hL; rcases Nat.lt_or_ge i ops.size with h | h <;> simp [h] at hL
    refine ⟨[], rfl, rfl, fun _ _ => rfl, fun i o d _ hL _ => (hno i hL).elim, fun i _ _ => ⟨fun hL => (hno i hL).elim, fun h => by simp at h⟩, fun h => by simp at h, by simp, fun i o _ hL => (hno i hL).elim, h0⟩

/-! The same in the form in which it is used: up to the m0-th step all is made in new memory; what is told of it (G) stays true as memory grows; from there on F. -/
def ValsOk (P : Program) (af : Act) (B : Nat) (W : World) : List Oper → List Stp → Prop
  | o :: os, .val v :: cs => (∀ w, Below B W w → o.wp P af w (fun a' w' => a' = af.put o.dst v ∧ Below w.heap.size w w') (fun _ _ _ => False)) ∧ ValsOk P af B W os cs
  | _ :: os, .step :: cs => ValsOk P af B W os cs
  | _, _ => True
def StepsOk (P : Program) (af : List Value → Act) (B : Nat) (W : World) (G F : List Value → World → Prop) (m0 : Nat) : List Value → List Oper → List Stp → Prop
  | us, o :: os, .step :: cs => (if us.length < m0 then ∀ w, Below B W w → G us w → o.wp P (af us) w (fun a' w' => ∃ u, a' = (af us).put o.dst u ∧ Below B W w' ∧ G (us ++ [u]) w') (fun _ _ _ => False)
      else if us.length = m0 then ∀ w, Below B W w → G us w → o.wp P (af us) w (fun a' w' => ∃ u, a' = (af us).put o.dst u ∧ F (us ++ [u]) w') (fun _ _ _ => False)
      else ∀ w, F us w → o.wp P (af us) w (fun a' w' => ∃ u, a' = (af us).put o.dst u ∧ F (us ++ [u]) w') (fun _ _ _ => False)) ∧ ∀ u, StepsOk P af B W G F m0 (us ++ [u]) os cs
  | us, _ :: os, .val _ :: cs => StepsOk P af B W G F m0 us os cs
  | _, _, _ => True
/-- What is told while the steps go on. -/
def chainR (B : Nat) (W : World) (G F : List Value → World → Prop) (m0 : Nat) (us : List Value) (w : World) : Prop := if us.length ≤ m0 then Below B W w ∧ G us w else F us w

theorem ValsOk.to {af : Act} {B : Nat} {W : World} {G F : List Value → World → Prop} {m0 : Nat} : ∀ (os : List Oper) (cs : List Stp), ValsOk P af B W os cs → ValOk2 P af m0 (chainR B W G F m0) os cs
  | [], _, _ => by unfold ValOk2; trivial
  | _ :: _, [], _ => by unfold ValOk2; trivial
  | o :: os, .val v :: cs, h => ⟨fun us w hus hr => by unfold chainR at hr; rw [if_pos hus] at hr; exact h.1 w hr.1, ValsOk.to os cs h.2⟩
  | o :: os, .step :: cs, h => ValsOk.to (af := af) (B := B) (W := W) os cs h
theorem StepsOk.to {af : List Value → Act} {B : Nat} {W : World} {G F : List Value → World → Prop} {m0 : Nat} : ∀ (os : List Oper) (cs : List Stp) (k : Nat), (∀ us, us.length = k → StepsOk P af B W G F m0 us os cs) → StepOk P af (chainR B W G F m0) k os cs
  | [], _, _, _ => by unfold StepOk; trivial
  | _ :: _, [], _, _ => by unfold StepOk; trivial
  | o :: os, .val v :: cs, k, h => StepsOk.to os cs k h
  | o :: os, .step :: cs, k, h => by
    refine ⟨fun us w hus hr => ?_, StepsOk.to os cs (k + 1) fun us hus => ?_⟩
    · have h1 := (h us hus).1
      unfold chainR at hr
      by_cases c1 : us.length < m0
      · rw [if_pos c1] at h1
        rw [if_pos (by omega)] at hr
        refine Oper.wp_mono ?_ (h1 w hr.1 hr.2)
        rintro a' w' ⟨u, rfl, hb, hg⟩
        exact ⟨u, rfl, by unfold chainR; rw [if_pos (by simp; omega)]; exact ⟨hb, hg⟩⟩
      · rw [if_neg c1] at h1
        by_cases c2 : us.length = m0
        · rw [if_pos c2] at h1
          rw [if_pos (by omega)] at hr
          refine Oper.wp_mono ?_ (h1 w hr.1 hr.2)
          rintro a' w' ⟨u, rfl, hf⟩
          exact ⟨u, rfl, by unfold chainR; rw [if_neg (by simp; omega)]; exact hf⟩
        · rw [if_neg c2] at h1
          rw [if_neg (by omega)] at hr
          refine Oper.wp_mono ?_ (h1 w hr)
          rintro a' w' ⟨u, rfl, hf⟩
          exact ⟨u, rfl, by unfold chainR; rw [if_neg (by simp; omega)]; exact hf⟩
    · obtain ⟨us', u, rfl⟩ : ∃ us' u, us = us' ++ [u] := ⟨us.dropLast, us.getLast (by intro e; rw [e] at hus; simp at hus), (List.dropLast_concat_getLast _).symm⟩
      exact (h us' (by simpa using hus)).2 u

theorem wp_region_stepsB {id : Nat} {a0 : Act} {w0 : World} (cl : List Stp) (m0 m : Nat) (B : Nat) (W : World) (hB : B ≤ W.heap.size) (G F : List Value → World → Prop) (af : List Value → Act) (hm : P.follows .mixedOrders = true) (hlen : cl.length = ops.size)
    (hback : (ops.toList.zipIdx.all fun (o, i) => o.after.all fun e => decide (e.on < i)) = true) (hguard : (ops.all fun o => o.guard.isNone) = true)
    (hdst : nodupB (ops.toList.filterMap (·.dst)) = true) (hroom : (ops.toList.filterMap (·.dst)).all (fun d => decide (d < a0.tmps.size)) = true) (hreads : readsB ops cl = true)
    (hvald : ((List.range ops.size).all fun i => stepIs cl i || ((ops[i]?).bind (·.dst)).isSome) = true)
    (hchain : chainB ops cl m0 m = true) (hlast : lastB ops cl m = true) (haf : af = chainAct ops cl a0)
    (hG : ∀ us w w', G us w → Below w.heap.size w w' → G us w') (h0 : Below B W w0) (hg0 : G [] w0.drew)
    (hval : ValsOk P (af []) B W ops.toList cl) (hstep : StepsOk P af B W G F m0 [] ops.toList cl)
    (hend : ∀ us w, us.length = m → (if m ≤ m0 then Below B W w ∧ G us w else F us w) → Q .normal (af us) w) :
    (Code.region id ops true).wp P Q a0 w0 := by
  refine wp_region_chain cl m0 m (chainR B W G F m0) af hm hlen hback hguard hdst hroom hreads hvald hchain hlast haf ?_ ?_ (ValsOk.to _ _ hval) (StepsOk.to _ _ 0 fun us hus => ?_) fun us w hus hr => hend us w hus ?_
  · intro us w w' hus hr hb
    unfold chainR at hr ⊢
    rw [if_pos hus] at hr ⊢
    exact ⟨hr.1.trans (hb.mono (Nat.le_trans hB hr.1.size)), hG us w w' hr.2 hb⟩
  · unfold chainR
    rw [if_pos (by simp)]
    exact ⟨h0.drew, hg0⟩
  · obtain rfl := List.eq_nil_of_length_eq_zero hus
    exact hstep
  · unfold chainR at hr
    rw [hus] at hr; exact hr
theorem wp_region_steps {id : Nat} {a0 : Act} {w0 : World} (cl : List Stp) (m0 m : Nat) (W : World) (G F : List Value → World → Prop) (af : List Value → Act) (hm : P.follows .mixedOrders = true) (hlen : cl.length = ops.size)
    (hback : (ops.toList.zipIdx.all fun (o, i) => o.after.all fun e => decide (e.on < i)) = true) (hguard : (ops.all fun o => o.guard.isNone) = true)
    (hdst : nodupB (ops.toList.filterMap (·.dst)) = true) (hroom : (ops.toList.filterMap (·.dst)).all (fun d => decide (d < a0.tmps.size)) = true) (hreads : readsB ops cl = true)
    (hvald : ((List.range ops.size).all fun i => stepIs cl i || ((ops[i]?).bind (·.dst)).isSome) = true)
    (hchain : chainB ops cl m0 m = true) (hlast : lastB ops cl m = true) (haf : af = chainAct ops cl a0)
    (hG : ∀ us w w', G us w → Below w.heap.size w w' → G us w') (h0 : Below W.heap.size W w0) (hg0 : G [] w0.drew)
    (hval : ValsOk P (af []) W.heap.size W ops.toList cl) (hstep : StepsOk P af W.heap.size W G F m0 [] ops.toList cl)
    (hend : ∀ us w, us.length = m → (if m ≤ m0 then Below W.heap.size W w ∧ G us w else F us w) → Q .normal (af us) w) :
    (Code.region id ops true).wp P Q a0 w0 :=
  wp_region_stepsB cl m0 m W.heap.size W (Nat.le_refl _) G F af hm hlen hback hguard hdst hroom hreads hvald hchain hlast haf hG h0 hg0 hval hstep hend
end
end Go.Proofs.YtpcdiijmhllejaaGreatDoor
