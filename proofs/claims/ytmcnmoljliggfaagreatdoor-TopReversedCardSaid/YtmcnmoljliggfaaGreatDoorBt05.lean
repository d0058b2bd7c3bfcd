/- Several texts in one: Tuple, Chain, Plus, RefAdd, RefPlus. -/
import Derived.Deep.MidRow
import Derived.Test.YtmcnmoljliggfaaGreatDoorBt04
set_option maxRecDepth 100000
set_option maxHeartbeats 8000000
/- A region that draws its order: 'a, b, c := f(x), g(y), h(z)', the variables in memory: values that do not hang on the order, variables made, values stored in them: ONE goal for all orders. -/
namespace Go.Proofs.YtmcnmoljliggfaaGreatDoor
open Go.RowKit

section
variable {P : Program} {ops : Array Oper} {Q : Exit → Act → World → Prop}

def unlisted (n : Nat) (L : Array Bool) : Nat := ((List.range n).filter fun i => !L.getD i false).length
theorem unlisted_zero {n : Nat} {L : Array Bool} (h : unlisted n L = 0) (i : Nat) (hi : i < n) : L.getD i false = true := by
  unfold unlisted at h
  rw [List.length_eq_zero_iff, List.filter_eq_nil_iff] at h
  have := h i (List.mem_range.2 hi)
  simpa using this
theorem filter_less {α : Type} (l : List α) (p q : α → Bool) (hpq : ∀ x ∈ l, q x = true → p x = true) (x : α) (hx : x ∈ l) (hp : p x = true) (hq : q x = false) : (l.filter q).length < (l.filter p).length := by
  induction l with
  | nil => cases hx
  | cons y l ih =>
    have hle : (l.filter q).length ≤ (l.filter p).length := by
      clear ih hx
      induction l with
      | nil => simp
      | cons z l ih2 =>
        have h2 := ih2 (fun a ha hqa => hpq a (by simp at ha ⊢; rcases ha with h | h <;> simp [h]) hqa)
        have hz := hpq z (by simp)
        simp only [List.filter_cons]
        by_cases h1 : q z = true
        · rw [if_pos h1, if_pos (hz h1)]; simpa using h2
        · rw [if_neg h1]; split <;> simp <;> omega
    simp only [List.filter_cons]
    rcases List.mem_cons.1 hx with rfl | hx
    · rw [if_neg (by simp [hq]), if_pos hp]; simp; omega
    · have h2 := ih (fun a ha => hpq a (by simp [ha])) hx
      by_cases h1 : q y = true
      · rw [if_pos h1, if_pos (hpq y (by simp) h1)]; simpa using h2
      · rw [if_neg h1]; split <;> simp <;> omega
theorem unlisted_set {n i : Nat} {L : Array Bool} (hi : i < n) (hs : L.size = n) (h : L.getD i true = false) : unlisted n (L.setIfInBounds i true) < unlisted n L := by
  unfold unlisted
  have hl : i < L.size := by omega
  refine filter_less _ _ _ (fun x _ hx => ?_) i (List.mem_range.2 hi) ?_ ?_
  · simp only [Bool.not_eq_true'] at hx ⊢
    cases hb : L.getD x false with
    | false => rfl
    | true => rw [getD_set_true hb] at hx; cases hx
  · simp [hl] at h ⊢; exact h
  · simp [hl]

theorem wpAny_inv (I : Array Bool → Act → World → Prop) (hback : (ops.toList.zipIdx.all fun (o, i) => o.after.all fun e => decide (e.on < i)) = true) (hguard : (ops.all fun o => o.guard.isNone) = true)
    (hstep : ∀ L a w, I L a w → ∀ i o, ops[i]? = some o → L.size = ops.size → L.getD i true = false → (∀ e ∈ o.after, Region.binds .any e = true → L.getD e.on false = true) → o.wp P a w (I (L.setIfInBounds i true)) Q)
    (hend : ∀ L a w, I L a w → (∀ i, i < ops.size → L.getD i false = true) → Q .normal a w) :
    ∀ (fuel : Nat) (L : Array Bool) (a : Act) (w : World), L.size = ops.size → unlisted ops.size L ≤ fuel → I L a w → wpAny P .any ops Q fuel L a w := by
  have hall : ∀ L : Array Bool, L.size = ops.size → Region.ready .any ops L = [] → ∀ i, i < ops.size → L.getD i false = true := fun L hs hr i => by
    induction i using Nat.strongRecOn with
    | _ i ih =>
      intro hi
      cases hb : L.getD i false with
      | true => rfl
      | false =>
        exfalso
        have hmem : i ∈ Region.ready .any ops L := by
          rw [mem_ready]
          have hl : i < L.size := by omega
          refine ⟨by simp [hl] at hb ⊢; exact hb, ops[i], Array.getElem?_eq_getElem hi, fun e he _ => ?_⟩
          have h1 := List.all_eq_true.1 hback (ops[i], i) (by
            rw [List.mem_zipIdx_iff_getElem?]; simp [hi])
          simp only [Array.all_eq_true_iff_forall_mem] at h1
          have h2 := of_decide_eq_true (h1 e he)
          exact ih e.on h2 (by omega)
        rw [hr] at hmem; cases hmem
  intro fuel
  induction fuel with
  | zero =>
    intro L a w hs hu hI
    have h0 := unlisted_zero (Nat.le_zero.1 hu)
    refine ⟨?_, hend L a w hI h0⟩
    cases hr : Region.ready .any ops L with
    | nil => rfl
    | cons i rest =>
      have hm : i ∈ Region.ready .any ops L := by rw [hr]; simp
      obtain ⟨h1, o, ho, _⟩ := mem_ready.1 hm
      have hi : i < ops.size := (Array.getElem?_eq_some_iff.1 ho).1
      have h2 := h0 i hi
      have hl : i < L.size := by omega
      simp [hl] at h1 h2
      rw [h1] at h2; cases h2
  | succ fuel ih =>
    intro L a w hs hu hI
    refine ⟨fun hr => hend L a w hI (hall L hs hr), fun i hi => ?_⟩
    obtain ⟨h1, o, ho, hp⟩ := mem_ready.1 hi
    have hlt : i < ops.size := (Array.getElem?_eq_some_iff.1 ho).1
    have hg : o.guard = none := by
      have := Array.all_eq_true_iff_forall_mem.1 hguard o (Array.mem_of_getElem? ho)
      simpa using this
    unfold wpOp
    simp only [ho]
    have hw : Region.wanted o (yielded ops a.tmps) = true := by simp [Region.wanted, hg]
    rw [if_pos hw]
    refine .inl (Oper.wp_mono (fun a' w' h' => ih _ a' w' (by simp [hs]) ?_ h') (hstep L a w hI i o ho hs h1 hp))
    have := unlisted_set hlt hs h1
    omega

def fill (t : Array Value) (l : List (Nat × Value)) : Array Value := l.foldl (fun t p => t.setIfInBounds p.1 p.2) t
theorem fill_size (l : List (Nat × Value)) : ∀ t : Array Value, (fill t l).size = t.size := by
  induction l with
  | nil => intro t; rfl
  | cons p l ih => intro t; show (fill _ l).size = _; rw [ih]; simp
theorem fill_other (l : List (Nat × Value)) (d : Nat) : ∀ t : Array Value, (∀ p ∈ l, p.1 ≠ d) → (fill t l)[d]? = t[d]? := by
  induction l with
  | nil => intro t _; rfl
  | cons p l ih =>
    intro t h
    show (fill _ l)[d]? = _
    rw [ih _ (fun q hq => h q (by simp [hq])), Array.getElem?_setIfInBounds_ne (h p (by simp))]
theorem fill_at (l : List (Nat × Value)) (hd : (l.map (·.1)).Nodup) (d : Nat) (v : Value) : ∀ t : Array Value, d < t.size → (d, v) ∈ l → (fill t l)[d]? = some v := by
  induction l with
  | nil => intro t _ h; cases h
  | cons p l ih =>
    intro t ht h
    simp only [List.map_cons, List.nodup_cons] at hd
    show (fill _ l)[d]? = _
    rcases List.mem_cons.1 h with rfl | h
    · rw [fill_other _ _ _ (fun q hq e => hd.1 (by simp only [List.mem_map]; exact ⟨q, hq, e⟩))]
      simp [ht]
    · exact ih hd.2 _ (by simpa using ht) h
theorem fill_unique (l : List (Nat × Value)) (hd : (l.map (·.1)).Nodup) (t u : Array Value) (hs : u.size = t.size) (ho : ∀ d, (∀ p ∈ l, p.1 ≠ d) → u[d]? = t[d]?) (ha : ∀ p ∈ l, p.1 < t.size → u[p.1]? = some p.2) : u = fill t l := by
  apply Array.ext_getElem?
  intro d
  by_cases h : ∃ p ∈ l, p.1 = d
  · obtain ⟨p, hp, rfl⟩ := h
    by_cases hl : p.1 < t.size
    · rw [ha p hp hl, fill_at l hd p.1 p.2 t hl hp]
    · rw [Array.getElem?_eq_none (by omega), Array.getElem?_eq_none (by rw [fill_size]; omega)]
  · have h' : ∀ p ∈ l, p.1 ≠ d := fun p hp e => h ⟨p, hp, e⟩
    rw [ho d h', fill_other l d t h']

inductive Cls where
  | val (v : Value)
  | new (T : TypeId) (n : Nat)
  | put (ia ic : Nat) (l : Array Value)
  | old (x b : Nat) (T : TypeId) (ic : Nat) (l : Array Value)

def Cls.of (c : Cls) (b : Nat) : Value := match c with
  | .val v => v
  | .new _ _ => .pointer (some ⟨b, 0, none⟩)
  | .put _ _ _ => undef
  | .old _ _ _ _ _ => undef
def pairs (ops : Array Oper) (f : Nat → Option Value) : List (Nat × Value) := ops.toList.zipIdx.filterMap fun (o, i) => match o.dst, f i with
  | some d, some v => some (d, v)
  | _, _ => none
def isVal (cls : Nat → Cls) (i : Nat) : Option Value := match cls i with
  | .val v => some v
  | _ => none
def readsOk (ops : Array Oper) (cls : Nat → Cls) : Bool := ops.toList.zipIdx.all fun (o, i) => match cls i with
  | .val _ => (match o.op with | .select _ _ => false | _ => true) && o.dst.isSome && o.op.operands.all fun x => match x with
    | .tmp t => (ops.all fun o' => o'.dst != some t) || o.after.any fun e => Region.binds .any e && ((isVal cls e.on).isSome && ((ops[e.on]?).bind (·.dst) == some t))
    | _ => true
  | _ => true

theorem upon_swap {o : Oper} {a1 a2 : Act} {v : Value} {R : World → Prop} {d : Nat} (hd : o.dst = some d) (hl : d < a1.tmps.size) {r : Result Next}
    (h : o.upon P a1 (fun a' w' => a' = a1.put o.dst v ∧ R w') (fun _ _ _ => False) r) : o.upon P a2 (fun a' w' => a' = a2.put o.dst v ∧ R w') Q r := by
  have key : ∀ u : Value, a1.put o.dst u = a1.put o.dst v → u = v := fun u e => by
    rw [hd] at e
    have := congrArg (fun a : Act => a.tmps[d]?) e
    simpa [Act.put, hl] using this
  cases r with
  | ok n w' =>
    cases n <;> simp only [Oper.upon] at h ⊢
    case value u => obtain ⟨e, hr⟩ := h; rw [key _ e]; exact ⟨rfl, hr⟩
    case skip => obtain ⟨e, hr⟩ := h; rw [key _ e]; exact ⟨rfl, hr⟩
    case defer dd =>
      obtain ⟨e, _⟩ := h
      have := congrArg (fun a : Act => a.defers.length) e
      rw [hd] at this
      simp [Act.put] at this
    case enter f args =>
      refine Calls.mono h fun e w'' he => ?_
      cases e with
      | returned u => obtain ⟨e, hr⟩ := he; rw [key _ e]; exact ⟨rfl, hr⟩
      | panicked c => exact he.elim
      | outgrown => obtain ⟨_, _, hf⟩ := he; exact hf.elim
    case row row args => exact Rows.mono h fun u w'' he => by obtain ⟨e, hr⟩ := he; rw [key _ e]; exact ⟨rfl, hr⟩
  | halt x w' => cases x <;> simp only [Oper.upon] at h ⊢

def setAll (cs : Array Value) : Nat → List Value → Array Value
  | _, [] => cs
  | o, v :: r => setAll (cs.setIfInBounds o v) (o + 1) r
theorem setAll_size : ∀ (l : List Value) (cs : Array Value) (o : Nat), (setAll cs o l).size = cs.size
  | [], _, _ => rfl
  | _ :: r, cs, o => by rw [setAll, setAll_size r]; simp
theorem setAll_before : ∀ (l : List Value) (cs : Array Value) (o j : Nat), j < o → (setAll cs o l)[j]? = cs[j]?
  | [], _, _, _, _ => rfl
  | v :: r, cs, o, j, h => by rw [setAll, setAll_before r _ _ _ (by omega), Array.getElem?_setIfInBounds_ne (by omega)]
theorem setAll_in : ∀ (l : List Value) (cs : Array Value) (o j : Nat), o ≤ j → j < o + l.length → j < cs.size → (setAll cs o l)[j]? = l[j - o]?
  | [], _, o, j, h1, h2, _ => by simp at h2; omega
  | v :: r, cs, o, j, h1, h2, h3 => by
    rw [setAll]
    by_cases e : j = o
    · subst e; rw [setAll_before r _ _ _ (by omega)]; simp [h3]
    · rw [setAll_in r _ _ _ (by omega) (by simp at h2; omega) (by simpa using h3), show j - o = (j - (o + 1)) + 1 by omega, List.getElem?_cons_succ]
theorem setAll_all (l : Array Value) (cs : Array Value) (h : cs.size = l.size) : setAll cs 0 l.toList = l := by
  apply Array.ext_getElem?
  intro j
  by_cases hj : j < l.size
  · rw [setAll_in _ _ _ _ (Nat.zero_le _) (by simpa using hj) (by omega)]; simp
  · rw [Array.getElem?_eq_none (by rw [setAll_size]; omega), Array.getElem?_eq_none (by omega)]
theorem Blk.setCells {b : Nat} {T : TypeId} : ∀ (vs : List Value) (o : Nat) (w : World) (cs : Array Value), Blk w b T cs → Blk (w.setCells b o vs) b T (setAll cs o vs)
  | [], _, _, _, h => h
  | v :: r, o, _, _, h => Blk.setCells r (o + 1) _ _ (h.set_ o v)
theorem Blk.setCells_far {g b : Nat} {T : TypeId} {cs : Array Value} (hn : g ≠ b) : ∀ (vs : List Value) (o : Nat) (w : World), Blk w g T cs → Blk (w.setCells b o vs) g T cs
  | [], _, _, h => h
  | v :: r, o, _, h => Blk.setCells_far hn r (o + 1) _ (h.far (p := ⟨b, o, none⟩) hn v)
theorem below_setCells {W : World} {B b : Nat} (hb : B ≤ b) : ∀ (vs : List Value) (o : Nat) (w : World), Below B W w → Below B W (w.setCells b o vs)
  | [], _, _, h => h
  | v :: r, o, _, h => below_setCells hb r (o + 1) _ (h.setCell (p := ⟨b, o, none⟩) hb v)
theorem Blk.there {w : World} {b : Nat} {T : TypeId} {cs : Array Value} (h : Blk w b T cs) : w.there b 0 cs.size := fun j hj => by
  rw [Nat.zero_add]
  exact ⟨by rw [h.cell]; simp [hj], h.frozen j⟩

def upd (f : Nat → Nat) (i b : Nat) : Nat → Nat := fun j => if j = i then b else f j
structure TI (ops : Array Oper) (cls : Nat → Cls) (a0 : Act) (B : Nat) (W : World) (z0 : Nat → Array Value) (bs : Nat → Nat) (L : Array Bool) (a : Act) (w : World) : Prop where
  defers : a.defers = a0.defers
  size : a.tmps.size = a0.tmps.size
  out : ∀ t, (∀ (i : Nat) o, ops[i]? = some o → L.getD i false = true → o.dst ≠ some t) → a.tmps[t]? = a0.tmps[t]?
  inn : ∀ (i : Nat) o d, ops[i]? = some o → L.getD i false = true → o.dst = some d → a.tmps[d]? = some ((cls i).of (bs i))
  below : Below B W w
  old : ∀ i x b T ic l, cls i = .old x b T ic l → B ≤ b ∧ b < W.heap.size ∧ ∃ cs, Blk w b T cs ∧ cs.size = l.size ∧ (L.getD i false = true → cs = l) ∧ (L.getD i false = false → cs = z0 i)
  closed : ∀ (i : Nat) o, ops[i]? = some o → L.getD i false = true → ∀ e ∈ o.after, Region.binds .any e = true → L.getD e.on false = true
  new : ∀ i T n, cls i = .new T n → L.getD i false = true → W.heap.size ≤ bs i ∧ ∃ cs, Blk w (bs i) T cs ∧ cs.size = n
  apart : ∀ i j T n T' n', cls i = .new T n → cls j = .new T' n' → L.getD i false = true → L.getD j false = true → i ≠ j → bs i ≠ bs j
  put : ∀ i ia ic l, cls i = .put ia ic l → L.getD i false = true → ∃ T, cls ia = .new T l.size ∧ L.getD ia false = true ∧ Blk w (bs ia) T l

theorem getD_set_iff {L : Array Bool} {i j : Nat} (hi : i < L.size) : (L.setIfInBounds i true).getD j false = true ↔ j = i ∨ L.getD j false = true := by
  by_cases e : i = j
  · subst e; simp [hi]
  · rw [getD_set_ne false e]; exact ⟨.inr, fun h => h.resolve_left (Ne.symm e)⟩

section
variable {cls : Nat → Cls} {a0 : Act} {B : Nat} {W : World} {z0 : Nat → Array Value} {bs : Nat → Nat} {L : Array Bool} {a : Act} {w : World}
end
theorem pairs_mem {f : Nat → Option Value} {p : Nat × Value} (h : p ∈ pairs ops f) : ∃ (i : Nat) (o : Oper), ops[i]? = some o ∧ o.dst = some p.1 ∧ f i = some p.2 := by
  unfold pairs at h
  rw [List.mem_filterMap] at h
  obtain ⟨⟨o, i⟩, hm, he⟩ := h
  rw [List.mem_zipIdx_iff_getElem?] at hm
  simp only at he hm
  cases hd : o.dst with
  | none => simp [hd] at he
  | some d => cases hf : f i with
    | none => simp [hd, hf] at he
    | some v => simp [hd, hf] at he; subst he; exact ⟨i, o, by simpa using hm, hd, hf⟩
theorem pairs_has {f : Nat → Option Value} {i : Nat} {o : Oper} {d : Nat} {v : Value} (hi : ops[i]? = some o) (hd : o.dst = some d) (hf : f i = some v) : (d, v) ∈ pairs ops f := by
  unfold pairs
  rw [List.mem_filterMap]
  refine ⟨(o, i), ?_, by simp [hd, hf]⟩
  rw [List.mem_zipIdx_iff_getElem?]; simpa using hi
theorem nodup_map_fst {l : List (Oper × Nat)} (f : Nat → Option Value) (h : (l.filterMap fun x => x.1.dst).Nodup) :
    ((l.filterMap fun (o, i) => match o.dst, f i with
      | some d, some v => some (d, v)
      | _, _ => none).map (·.1)).Nodup := by
  induction l with
  | nil => simp
  | cons x l ih =>
    obtain ⟨o, i⟩ := x
    simp only [List.filterMap_cons] at h ⊢
    cases hd : o.dst with
    | none => simp [hd] at h ⊢; simpa using ih h
    | some d =>
      simp only [hd, List.nodup_cons] at h
      cases hf : f i with
      | none => simpa [hd, hf] using ih h.2
      | some v =>
        simp only [List.map_cons, List.nodup_cons]
        refine ⟨fun hm => h.1 ?_, ih h.2⟩
        rw [List.mem_map] at hm
        obtain ⟨⟨d', v'⟩, hm, rfl⟩ := hm
        rw [List.mem_filterMap] at hm ⊢
        obtain ⟨⟨o', i'⟩, hm, he⟩ := hm
        refine ⟨(o', i'), hm, ?_⟩
        cases hd' : o'.dst with
        | none => simp [hd'] at he
        | some d2 => cases hf' : f i' with
          | none => simp [hd', hf'] at he
          | some v2 => simp [hd', hf'] at he; simp [he.1]
theorem zipIdx_dsts : ∀ (l : List Oper) (k : Nat), (l.zipIdx k).filterMap (fun x => x.1.dst) = l.filterMap (·.dst)
  | [], _ => rfl
  | o :: l, k => by simp [List.zipIdx_cons, List.filterMap_cons, zipIdx_dsts l (k + 1)]
theorem pairs_nodup (f : Nat → Option Value) (h : (ops.toList.filterMap (·.dst)).Nodup) : ((pairs ops f).map (·.1)).Nodup :=
  nodup_map_fst f (by rw [zipIdx_dsts]; exact h)
theorem dst_inj (h : (ops.toList.filterMap (·.dst)).Nodup) : ∀ (i j : Nat) oi oj d, ops[i]? = some oi → ops[j]? = some oj → oi.dst = some d → oj.dst = some d → i = j := by
  obtain ⟨l⟩ := ops
  simp only at h
  induction l with
  | nil => intro i j oi oj d hi; simp at hi
  | cons o l ih =>
    intro i j oi oj d hi hj hdi hdj
    have hmem : ∀ (k : Nat) ok, l[k]? = some ok → ok.dst = some d → d ∈ l.filterMap (·.dst) := fun k ok hk hd => by
      rw [List.mem_filterMap]; exact ⟨ok, List.mem_of_getElem? hk, hd⟩
    have hrest : (l.filterMap (·.dst)).Nodup := by
      simp only [List.filterMap_cons] at h
      cases hd : o.dst with
      | none => simpa [hd] using h
      | some d => simp only [hd, List.nodup_cons] at h; exact h.2
    have hhead : o.dst = some d → d ∉ l.filterMap (·.dst) := fun hd => by
      simp only [List.filterMap_cons, hd, List.nodup_cons] at h; exact h.1
    cases i with
    | zero =>
      cases j with
      | zero => rfl
      | succ j =>
        simp at hi hj; subst hi
        exact absurd (hmem j oj hj hdj) (hhead hdi)
    | succ i =>
      cases j with
      | zero =>
        simp at hi hj; subst hj
        exact absurd (hmem i oi hi hdi) (hhead hdj)
      | succ j =>
        simp at hi hj
        exact congrArg Nat.succ (ih hrest i j oi oj d (by simpa using hi) (by simpa using hj) hdi hdj)

def clsOf (cl : List Cls) (i : Nat) : Cls := (cl[i]?).getD (.put 0 0 #[])
def ValOk (P : Program) (af : Act) (B : Nat) (W : World) (S : World → Prop) : List Oper → List Cls → Prop
  | o :: os, .val v :: cs => (∀ w, Below B W w → S w → o.wp P af w (fun a' w' => a' = af.put o.dst v ∧ Below w.heap.size w w') (fun _ _ _ => False)) ∧ ValOk P af B W S os cs
  | _ :: os, _ :: cs => ValOk P af B W S os cs
  | _, _ => True
def NewOk (P : Program) : List Oper → List Cls → Prop
  | o :: os, .new T n :: cs => (∃ z : Array Value, z.size = n ∧ ∀ (ρ : Operand → Value) (w : World), (execOp ρ o).run P w = .ok (.value (.pointer (some ⟨w.heap.size, 0, none⟩))) (w.alloc (.cells z T))) ∧ NewOk P os cs
  | _ :: os, _ :: cs => NewOk P os cs
  | _, _ => True
def PutOk (P : Program) (ops : Array Oper) (cl : List Cls) : List Oper → List Cls → Prop
  | o :: os, .put ia ic l :: cs => (∃ T x y, o.op = .store T (.tmp x) (.tmp y) ∧ o.dst = none ∧ (ops[ia]?).bind (·.dst) = some x ∧ (ops[ic]?).bind (·.dst) = some y ∧ cl[ia]? = some (.new T l.size) ∧ cl[ic]? = some (.val (.agg l)) ∧
      (o.after.any fun e => Region.binds .any e && e.on == ia) = true ∧ (o.after.any fun e => Region.binds .any e && e.on == ic) = true ∧ (P.info? T).map (·.size) = some l.size ∧ l.all (·.oneCell') = true) ∧ PutOk P ops cl os cs
  | _ :: os, _ :: cs => PutOk P ops cl os cs
  | _, _ => True
def OldOk (P : Program) (ops : Array Oper) (cl : List Cls) (t0 : Array Value) (B : Nat) (W w0 : World) (z : Array Value) : List Oper → List Cls → Prop
  | o :: os, .old x b T ic l :: cs => (B ≤ b ∧ b < W.heap.size ∧ Blk w0 b T z ∧ z.size = l.size ∧ ∃ y, o.op = .store T (.tmp x) (.tmp y) ∧ o.dst = none ∧ (ops[ic]?).bind (·.dst) = some y ∧ cl[ic]? = some (.val (.agg l)) ∧
      (ops.all fun ok => ok.dst != some x) = true ∧ t0[x]? = some (.pointer (some ⟨b, 0, none⟩)) ∧ (o.after.any fun e => Region.binds .any e && e.on == ic) = true ∧ (P.info? T).map (·.size) = some l.size ∧ l.all (·.oneCell') = true) ∧ OldOk P ops cl t0 B W w0 z os cs
  | _ :: os, _ :: cs => OldOk P ops cl t0 B W w0 z os cs
  | _, _ => True
def putsOf : List Cls → List Nat
  | .put ia _ _ :: cs => ia :: putsOf cs
  | _ :: cs => putsOf cs
  | [] => []
def oldsOf : List Cls → Nat
  | .old _ _ _ _ _ :: cs => oldsOf cs + 1
  | _ :: cs => oldsOf cs
  | [] => 0
def waitsB (ops : Array Oper) (cl : List Cls) : Bool := (List.range ops.size).all fun j => match clsOf cl j with
  | .old _ _ _ _ _ => (List.range ops.size).all fun i => match clsOf cl i with
    | .val _ => ((ops[j]?).map fun o => o.after.any fun e => Region.binds .any e && e.on == i).getD false
    | _ => true
  | _ => true
def nodupB : List Nat → Bool
  | [] => true
  | x :: l => !l.contains x && nodupB l
theorem nodupB_spec : ∀ {l : List Nat}, nodupB l = true → l.Nodup
  | [], _ => List.nodup_nil
  | x :: l, h => by
    simp only [nodupB, Bool.and_eq_true, Bool.not_eq_true', List.contains_eq_mem, decide_eq_false_iff_not] at h
    exact List.nodup_cons.2 ⟨h.1, nodupB_spec h.2⟩
theorem any_edge {o : Oper} {k : Nat} (h : (o.after.any fun e => Region.binds .any e && e.on == k) = true) : ∃ e ∈ o.after, Region.binds .any e = true ∧ e.on = k := by
  rw [← Array.any_toList, List.any_eq_true] at h
  obtain ⟨e, he, h3⟩ := h
  rw [Array.mem_toList_iff] at he
  simp only [Bool.and_eq_true, beq_iff_eq] at h3
  exact ⟨e, he, h3.1, h3.2⟩
theorem bind_dst {k x : Nat} (h : (ops[k]?).bind (·.dst) = some x) : ∃ o, ops[k]? = some o ∧ o.dst = some x := by
  cases ho : ops[k]? with
  | none => simp [ho] at h
  | some o => simp [ho] at h; exact ⟨o, rfl, h⟩
end
/- A region that draws its order, in which all that makes or changes memory comes one behind the other: each such step may hand back whatever it likes. -/

section
variable {P : Program} {ops : Array Oper} {Q : Exit → Act → World → Prop}

inductive Stp where
  | val (v : Value)
  | step
def Stp.isStep : Stp → Bool
  | .step => true
  | _ => false
def stepNo (cl : List Stp) (i : Nat) : Nat := ((cl.take i).filter Stp.isStep).length
def stepIs (cl : List Stp) (i : Nat) : Bool := ((cl[i]?).map Stp.isStep).getD false
def valIs (cl : List Stp) (i : Nat) : Bool := ((cl[i]?).map fun c => !c.isStep).getD false
def valAt (cl : List Stp) (us : List Value) (i : Nat) : Value := match cl[i]? with
  | some (.val v) => v
  | some .step => us.getD (stepNo cl i) undef
  | none => undef
def edgeB (o : Oper) (k : Nat) : Bool := o.after.any fun e => Region.binds .any e && e.on == k
def readsB (ops : Array Oper) (cl : List Stp) : Bool := (List.range ops.size).all fun i => match ops[i]? with
  | some o => (match o.op with | .select _ _ => false | _ => true) && o.op.operands.all fun x => match x with
    | .tmp t => (ops.all fun o' => o'.dst != some t) || o.after.any fun e => Region.binds .any e && ((ops[e.on]?).bind (·.dst) == some t) && (valIs cl e.on || stepIs cl i)
    | _ => true
  | none => true
def reachB (ops : Array Oper) : Nat → Oper → Nat → Bool
  | 0, _, _ => false
  | f + 1, o, k => o.after.any fun e => Region.binds .any e && (e.on == k || match ops[e.on]? with
    | some o' => reachB ops f o' k
    | none => false)
theorem reach_done {L : Array Bool} (hcl : ∀ (i : Nat) o, ops[i]? = some o → L.getD i false = true → ∀ e ∈ o.after, Region.binds .any e = true → L.getD e.on false = true) {k : Nat} : ∀ (f : Nat) (o : Oper), (∀ e ∈ o.after, Region.binds .any e = true → L.getD e.on false = true) → reachB ops f o k = true → L.getD k false = true
  | 0, _, _, h => by simp [reachB] at h
  | f + 1, o, hp, h => by
    unfold reachB at h
    rw [← Array.any_toList, List.any_eq_true] at h
    obtain ⟨e, he, h3⟩ := h
    rw [Array.mem_toList_iff] at he
    simp only [Bool.and_eq_true, Bool.or_eq_true, beq_iff_eq] at h3
    obtain ⟨hb, h4⟩ := h3
    rcases h4 with rfl | h4
    · exact hp e he hb
    · cases ho : ops[e.on]? with
      | none => simp [ho] at h4
      | some o' =>
        rw [ho] at h4
        exact reach_done hcl f o' (hcl e.on o' ho (hp e he hb)) h4
def chainB (ops : Array Oper) (cl : List Stp) (m0 m : Nat) : Bool := (List.range ops.size).all fun i => !stepIs cl i || (match ops[i]? with
  | some o => decide (stepNo cl i < m) && (stepNo cl i == 0 || (List.range ops.size).any fun j => stepIs cl j && stepNo cl j + 1 == stepNo cl i && edgeB o j) &&
      (decide (stepNo cl i < m0) || (List.range ops.size).all fun j => stepIs cl j || edgeB o j || reachB ops 4 o j) && (List.range ops.size).all fun j => !stepIs cl j || stepNo cl j != stepNo cl i || j == i
  | none => false)
def lastB (ops : Array Oper) (cl : List Stp) (m : Nat) : Bool := m == 0 || (List.range ops.size).any fun i => stepIs cl i && stepNo cl i + 1 == m

theorem upon_step {o : Oper} {a1 a2 : Act} {S : Value → World → Prop} (hl : ∀ d, o.dst = some d → d < a1.tmps.size) {r : Result Next}
    (h : o.upon P a1 (fun a' w' => ∃ u, a' = a1.put o.dst u ∧ S u w') (fun _ _ _ => False) r) : o.upon P a2 (fun a' w' => ∃ u, a' = a2.put o.dst u ∧ S u w') Q r := by
  have key : ∀ u w', (∃ v, a1.put o.dst u = a1.put o.dst v ∧ S v w') → ∃ v, a2.put o.dst u = a2.put o.dst v ∧ S v w' := fun u w' ⟨v, e, hs⟩ => by
    cases hd : o.dst with
    | none => exact ⟨v, rfl, hs⟩
    | some d =>
      have hl := hl d hd
      rw [hd] at e
      have := congrArg (fun a : Act => a.tmps[d]?) e
      have e2 : u = v := by simpa [Act.put, hl] using this
      subst e2
      exact ⟨u, rfl, hs⟩
  cases r with
  | ok n w' =>
    cases n <;> simp only [Oper.upon] at h ⊢
    case value u => exact key u w' h
    case skip => exact key _ w' h
    case defer dd =>
      obtain ⟨v, e, _⟩ := h
      have := congrArg (fun a : Act => a.defers.length) e
      cases hd : o.dst <;> rw [hd] at this <;> simp [Act.put] at this
    case enter f args =>
      refine Calls.mono h fun e w'' he => ?_
      cases e with
      | returned u => exact key u w'' he
      | panicked c => exact he.elim
      | outgrown => obtain ⟨_, _, hf⟩ := he; exact hf.elim
    case row row args => exact Rows.mono h fun u w'' he => key u w'' he
  | halt x w' => cases x <;> simp only [Oper.upon] at h ⊢

structure CI (ops : Array Oper) (cl : List Stp) (a0 : Act) (R : List Value → World → Prop) (m0 m : Nat) (us : List Value) (L : Array Bool) (a : Act) (w : World) : Prop where
  defers : a.defers = a0.defers
  size : a.tmps.size = a0.tmps.size
  out : ∀ t, (∀ (i : Nat) o, ops[i]? = some o → L.getD i false = true → o.dst ≠ some t) → a.tmps[t]? = a0.tmps[t]?
  inn : ∀ (i : Nat) o d, ops[i]? = some o → L.getD i false = true → o.dst = some d → a.tmps[d]? = some (valAt cl us i)
  steps : ∀ i, i < ops.size → stepIs cl i = true → (L.getD i false = true ↔ stepNo cl i < us.length)
  early : m0 < us.length → ∀ i, i < ops.size → stepIs cl i = false → L.getD i false = true
  count : us.length ≤ m
  closed : ∀ (i : Nat) o, ops[i]? = some o → L.getD i false = true → ∀ e ∈ o.after, Region.binds .any e = true → L.getD e.on false = true
  rel : R us w

section
variable {cl : List Stp} {a0 : Act} {R : List Value → World → Prop} {m0 m : Nat} {us : List Value} {L : Array Bool} {a : Act} {w : World}
theorem CI.tmps {i : Nat} {o : Oper} (h : CI ops cl a0 R m0 m us L a w) (hi : ops[i]? = some o) (hL : i < L.size) (hun : L.getD i false = false)
    (hdist : ∀ (i j : Nat) oi oj d, ops[i]? = some oi → ops[j]? = some oj → oi.dst = some d → oj.dst = some d → i = j) (hroom : ∀ (i : Nat) o d, ops[i]? = some o → o.dst = some d → d < a0.tmps.size)
    (v : Value) (us' : List Value) (hus : ∀ (j : Nat) oj, ops[j]? = some oj → L.getD j false = true → valAt cl us' j = valAt cl us j) (hv : v = valAt cl us' i ∨ o.dst = none) :
    (a.put o.dst v).defers = a0.defers ∧ (a.put o.dst v).tmps.size = a0.tmps.size ∧
    (∀ t, (∀ (k : Nat) ok, ops[k]? = some ok → (L.setIfInBounds i true).getD k false = true → ok.dst ≠ some t) → (a.put o.dst v).tmps[t]? = a0.tmps[t]?) ∧
    (∀ (k : Nat) ok d, ops[k]? = some ok → (L.setIfInBounds i true).getD k false = true → ok.dst = some d → (a.put o.dst v).tmps[d]? = some (valAt cl us' k)) := by
  refine ⟨?_, ?_, fun t ht => ?_, fun k ok d hk hLk hd => ?_⟩
  · cases hd : o.dst <;> simp [Act.put, h.defers]
  · cases hd : o.dst <;> simp [Act.put, h.size]
  · have h1 := ht i o hi ((getD_set_iff hL).2 (.inl rfl))
    have h2 := h.out t fun k ok hk hLk => ht k ok hk ((getD_set_iff hL).2 (.inr hLk))
    cases hd : o.dst with
    | none => exact h2
    | some d =>
      rw [← h2]
      simp only [Act.put]
      exact Array.getElem?_setIfInBounds_ne (fun e => h1 (by rw [hd, e]))
  · rcases (getD_set_iff hL).1 hLk with rfl | hLk2
    · rw [hi] at hk; injection hk with hk; subst hk
      rcases hv with hv | hv
      · rw [hd, ← hv]
        have := hroom k o d hi hd
        simp [Act.put, h.size, this]
      · rw [hv] at hd; cases hd
    · have hne : k ≠ i := fun e => by rw [e, hun] at hLk2; cases hLk2
      rw [hus k ok hk hLk2, ← h.inn k ok d hk hLk2 hd]
      cases hdo : o.dst with
      | none => rfl
      | some d' =>
        simp only [Act.put]
        exact Array.getElem?_setIfInBounds_ne (fun e => hne (hdist k i ok o d hk hi hd (by rw [hdo, e])))

def chainAct (ops : Array Oper) (cl : List Stp) (a0 : Act) (us : List Value) : Act := ⟨fill a0.tmps (pairs ops fun i => some (valAt cl us i)), a0.defers⟩

theorem CI.eval {i : Nat} {o : Oper} (h : CI ops cl a0 R m0 m us L a w) (hi : ops[i]? = some o) (hreads : readsB ops cl = true) (hdst : (ops.toList.filterMap (·.dst)).Nodup)
    (hroom : ∀ (i : Nat) o d, ops[i]? = some o → o.dst = some d → d < a0.tmps.size) (hp : ∀ e ∈ o.after, Region.binds .any e = true → L.getD e.on false = true)
    (us' : List Value) (hus : us' = us ∨ stepIs cl i = false) :
    (∀ cs b, o.op ≠ .select cs b) ∧ ∀ x ∈ o.op.operands, a.eval x = (chainAct ops cl a0 us').eval x := by
  have hlt : i < ops.size := (Array.getElem?_eq_some_iff.1 hi).1
  have h1 := List.all_eq_true.1 hreads i (List.mem_range.2 hlt)
  simp only [hi, Bool.and_eq_true] at h1
  obtain ⟨hsel, hops⟩ := h1
  refine ⟨fun cs b e => by rw [e] at hsel; simp at hsel, fun x hx => ?_⟩
  rw [Array.all_eq_true_iff_forall_mem] at hops
  have h2 := hops x hx
  cases x with
  | tmp t =>
    simp only [Bool.or_eq_true] at h2
    rcases h2 with h2 | h2
    · rw [Array.all_eq_true_iff_forall_mem] at h2
      have hno : ∀ (k : Nat) ok, ops[k]? = some ok → ok.dst ≠ some t := fun k ok hk e => by
        have := h2 ok (Array.mem_of_getElem? hk)
        simp [e] at this
      have e1 := h.out t fun k ok hk _ => hno k ok hk
      have e2 := fill_other (pairs ops fun i => some (valAt cl us' i)) t a0.tmps fun p hp e => by
        obtain ⟨k, ok, hk, hd, _⟩ := pairs_mem hp
        exact hno k ok hk (by rw [hd, e])
      simp [Act.eval, Array.getD_eq_getD_getElem?, chainAct, e1, e2]
    · rw [← Array.any_toList, List.any_eq_true] at h2
      obtain ⟨e, he, h3⟩ := h2
      rw [Array.mem_toList_iff] at he
      simp only [Bool.and_eq_true, Bool.or_eq_true, beq_iff_eq] at h3
      obtain ⟨⟨hb, hd⟩, hv⟩ := h3
      cases hoe : ops[e.on]? with
      | none => simp [hoe] at hd
      | some oe =>
        simp only [hoe, Option.bind_some] at hd
        have e1 := h.inn e.on oe t hoe (hp e he hb) hd
        have e2 := fill_at (pairs ops fun i => some (valAt cl us' i)) (pairs_nodup _ hdst) t (valAt cl us' e.on) a0.tmps (hroom _ _ _ hoe hd) (pairs_has hoe hd rfl)
        have e3 : valAt cl us' e.on = valAt cl us e.on := by
          rcases hus with rfl | hus
          · rfl
          · rcases hv with hv | hv
            · unfold valIs at hv
              unfold valAt
              cases hc : cl[e.on]? with
              | none => simp [hc] at hv
              | some c => cases c with
                | val v => rfl
                | step => simp [hc, Stp.isStep] at hv
            · rw [hus] at hv; cases hv
        rw [e3] at e2
        simp [Act.eval, Array.getD_eq_getD_getElem?, chainAct, e1, e2]
  | _ => rfl
end

theorem valAt_more {cl : List Stp} {us : List Value} {u : Value} {i : Nat} (h : stepIs cl i = true → stepNo cl i < us.length) : valAt cl (us ++ [u]) i = valAt cl us i := by
  unfold valAt
  cases hc : cl[i]? with
  | none => rfl
  | some c => cases c with
    | val v => rfl
    | step =>
      have := h (by simp [stepIs, hc, Stp.isStep])
      simp [List.getD_eq_getElem?_getD, List.getElem?_append_left this]

def ValOk2 (P : Program) (af : Act) (m0 : Nat) (R : List Value → World → Prop) : List Oper → List Stp → Prop
  | o :: os, .val v :: cs => (∀ us w, us.length ≤ m0 → R us w → o.wp P af w (fun a' w' => a' = af.put o.dst v ∧ Below w.heap.size w w') (fun _ _ _ => False)) ∧ ValOk2 P af m0 R os cs
  | _ :: os, .step :: cs => ValOk2 P af m0 R os cs
  | _, _ => True
def StepOk (P : Program) (af : List Value → Act) (R : List Value → World → Prop) : Nat → List Oper → List Stp → Prop
  | k, o :: os, .step :: cs => (∀ us w, us.length = k → R us w → o.wp P (af us) w (fun a' w' => ∃ u, a' = (af us).put o.dst u ∧ R (us ++ [u]) w') (fun _ _ _ => False)) ∧ StepOk P af R (k + 1) os cs
  | k, _ :: os, .val _ :: cs => StepOk P af R k os cs
  | _, _, _ => True
theorem ValOk2.get {af : Act} {m0 : Nat} {R : List Value → World → Prop} {v : Value} {o : Oper} : ∀ (os : List Oper) (cs : List Stp), ValOk2 P af m0 R os cs → ∀ i : Nat, os[i]? = some o → cs[i]? = some (.val v) → ∀ us w, us.length ≤ m0 → R us w → o.wp P af w (fun a' w' => a' = af.put o.dst v ∧ Below w.heap.size w w') (fun _ _ _ => False)
  | [], _, _, i, h1, _ => by simp at h1
  | _ :: _, [], _, i, _, h2 => by simp at h2
  | o' :: os, c :: cs, h, 0, h1, h2 => by
    simp at h1 h2; subst h1 h2
    exact h.1
  | o' :: os, c :: cs, h, i + 1, h1, h2 => by
    have h' : ValOk2 P af m0 R os cs := by cases c <;> first | exact h.2 | exact h
    exact ValOk2.get os cs h' i (by simpa using h1) (by simpa using h2)
theorem StepOk.get {af : List Value → Act} {R : List Value → World → Prop} {o : Oper} : ∀ (os : List Oper) (cs : List Stp) (k : Nat), StepOk P af R k os cs → ∀ i : Nat, os[i]? = some o → cs[i]? = some .step → ∀ us w, us.length = k + stepNo cs i → R us w → o.wp P (af us) w (fun a' w' => ∃ u, a' = (af us).put o.dst u ∧ R (us ++ [u]) w') (fun _ _ _ => False)
  | [], _, _, _, i, h1, _ => by simp at h1
  | _ :: _, [], _, _, i, _, h2 => by simp at h2
  | o' :: os, c :: cs, k, h, 0, h1, h2 => by
    simp at h1 h2; subst h1 h2
    intro us w hu
    exact h.1 us w (by simpa [stepNo] using hu)
  | o' :: os, c :: cs, k, h, i + 1, h1, h2 => by
    intro us w hu hr
    cases c with
    | val v =>
      have h' : StepOk P af R k os cs := h
      exact StepOk.get os cs k h' i (by simpa using h1) (by simpa using h2) us w (by simpa [stepNo, Stp.isStep] using hu) hr
    | step =>
      exact StepOk.get os cs (k + 1) h.2 i (by simpa using h1) (by simpa using h2) us w (by rw [hu]; show _ = k + 1 + _; unfold stepNo; rw [List.take_succ_cons, List.filter_cons_of_pos rfl, List.length_cons]; omega) hr

theorem wp_region_chain {id : Nat} {a0 : Act} {w0 : World} (cl : List Stp) (m0 m : Nat) (R : List Value → World → Prop) (af : List Value → Act) (hm : P.follows .mixedOrders = true) (hlen : cl.length = ops.size)
    (hback : (ops.toList.zipIdx.all fun (o, i) => o.after.all fun e => decide (e.on < i)) = true) (hguard : (ops.all fun o => o.guard.isNone) = true)
    (hdst : nodupB (ops.toList.filterMap (·.dst)) = true) (hroom : (ops.toList.filterMap (·.dst)).all (fun d => decide (d < a0.tmps.size)) = true) (hreads : readsB ops cl = true)
    (hvald : ((List.range ops.size).all fun i => stepIs cl i || ((ops[i]?).bind (·.dst)).isSome) = true)
    (hchain : chainB ops cl m0 m = true) (hlast : lastB ops cl m = true) (haf : af = chainAct ops cl a0)
    (hR : ∀ us w w', us.length ≤ m0 → R us w → Below w.heap.size w w' → R us w') (h0 : R [] w0.drew)
    (hval : ValOk2 P (af []) m0 R ops.toList cl) (hstep : StepOk P af R 0 ops.toList cl)
    (hend : ∀ us w, us.length = m → R us w → Q .normal (af us) w) :
    (Code.region id ops true).wp P Q a0 w0 := by
  subst haf
  have hnd := nodupB_spec hdst
  have hdist := dst_inj hnd
  have hroom' : ∀ (i : Nat) o d, ops[i]? = some o → o.dst = some d → d < a0.tmps.size := fun i o d hi hd =>
    of_decide_eq_true (List.all_eq_true.1 hroom d (by rw [List.mem_filterMap]; exact ⟨o, Array.mem_toList_iff.2 (Array.mem_of_getElem? hi), hd⟩))
  refine wp_region_any hm (wpAny_inv (fun L a w => ∃ us, CI ops cl a0 R m0 m us L a w) hback hguard ?_ ?_ _ _ _ _ (by simp) ?_ ?_)
  · rintro L a w ⟨us, h⟩ i o hi hs hun hp
    have hlt : i < ops.size := (Array.getElem?_eq_some_iff.1 hi).1
    have hL : i < L.size := by omega
    have hun' : L.getD i false = false := by simp [hL] at hun ⊢; exact hun
    have hkeep : ∀ j, j ≠ i → (L.setIfInBounds i true).getD j false = L.getD j false := fun j hj => getD_set_ne false (Ne.symm hj)
    have hci : i < cl.length := by omega
    have hclosed : ∀ (j : Nat) oj, ops[j]? = some oj → (L.setIfInBounds i true).getD j false = true → ∀ e ∈ oj.after, Region.binds .any e = true → (L.setIfInBounds i true).getD e.on false = true := fun j oj hj hLj e he hb => by
      rw [getD_set_iff hL] at hLj ⊢
      rcases hLj with rfl | hLj
      · rw [hi] at hj; injection hj with hj; subst hj
        exact .inr (hp e he hb)
      · exact .inr (h.closed j oj hj hLj e he hb)
    cases hc : stepIs cl i with
    | false =>
      obtain ⟨v, hv⟩ : ∃ v, cl[i]? = some (.val v) := by
        cases hx : cl[i]? with
        | none => simp at hx; omega
        | some c => cases c with
          | val v => exact ⟨v, rfl⟩
          | step => simp [stepIs, hx, Stp.isStep] at hc
      have hle : us.length ≤ m0 := by
        rcases Nat.lt_or_ge m0 us.length with h1 | h1
        · rw [h.early h1 i hlt hc] at hun'; cases hun'
        · exact h1
      obtain ⟨hsel, hev⟩ := h.eval hi hreads hnd hroom' hp [] (.inr hc)
      obtain ⟨d, hd⟩ : ∃ d, o.dst = some d := by
        have := List.all_eq_true.1 hvald i (List.mem_range.2 hlt)
        simp only [hc, hi, Bool.false_or, Option.bind_some] at this
        exact Option.isSome_iff_exists.1 this
      have h1 := ValOk2.get _ _ hval i (by simpa using hi) hv us w hle h.rel
      unfold Oper.wp at h1
      rw [← execOp_congr o hsel hev] at h1
      have h2 := upon_swap (a2 := a) (Q := Q) hd (by simp only [chainAct, fill_size]; exact hroom' i o d hi hd) h1
      refine Oper.wp_mono ?_ h2
      rintro a' w' ⟨rfl, hb⟩
      have hva : v = valAt cl us i := by unfold valAt; rw [hv]
      obtain ⟨t1, t2, t3, t4⟩ := h.tmps hi hL hun' hdist hroom' v us (fun _ _ _ _ => rfl) (.inl hva)
      refine ⟨us, t1, t2, t3, t4, fun j hj hcj => ?_, fun hm0 j hj hcj => ?_, h.count, hclosed, hR us w w' hle h.rel hb⟩
      · rw [hkeep j (fun e => by rw [e, hc] at hcj; cases hcj)]; exact h.steps j hj hcj
      · omega
    | true =>
      have hci2 : cl[i]? = some .step := by
        cases hx : cl[i]? with
        | none => simp at hx; omega
        | some c => cases c with
          | val v => simp [stepIs, hx, Stp.isStep] at hc
          | step => rfl
      have hch := List.all_eq_true.1 hchain i (List.mem_range.2 hlt)
      simp only [hc, hi, Bool.not_true, Bool.false_or, Bool.and_eq_true, Bool.or_eq_true, decide_eq_true_eq, beq_iff_eq] at hch
      obtain ⟨⟨⟨hkm, hprev⟩, hall⟩, hinj⟩ := hch
      have hge : us.length ≤ stepNo cl i := by
        rcases Nat.lt_or_ge (stepNo cl i) us.length with h1 | h1
        · rw [(h.steps i hlt hc).2 h1] at hun'; cases hun'
        · exact h1
      have hk : us.length = stepNo cl i := by
        rcases hprev with h1 | h1
        · omega
        · rw [List.any_eq_true] at h1
          obtain ⟨j, hj, h2⟩ := h1
          simp only [Bool.and_eq_true, beq_iff_eq] at h2
          obtain ⟨⟨h3, h4⟩, h5⟩ := h2
          obtain ⟨e, he, hb, rfl⟩ := any_edge h5
          have := (h.steps e.on (List.mem_range.1 hj) h3).1 (hp e he hb)
          omega
      obtain ⟨hsel, hev⟩ := h.eval hi hreads hnd hroom' hp us (.inl rfl)
      have h1 := StepOk.get _ _ 0 hstep i (by simpa using hi) hci2 us w (by omega) h.rel
      unfold Oper.wp at h1
      rw [← execOp_congr o hsel hev] at h1
      have h2 := upon_step (a2 := a) (Q := Q) (by intro d hd; simp only [chainAct, fill_size]; exact hroom' i o d hi hd) h1
      refine Oper.wp_mono ?_ h2
      rintro a' w' ⟨u, rfl, hr⟩
      have hua : u = valAt cl (us ++ [u]) i := by
        unfold valAt; rw [hci2]; simp [List.getD_eq_getElem?_getD, ← hk]
      have husame : ∀ (j : Nat) oj, ops[j]? = some oj → L.getD j false = true → valAt cl (us ++ [u]) j = valAt cl us j := fun j oj hj hLj =>
        valAt_more fun hcj => (h.steps j (Array.getElem?_eq_some_iff.1 hj).1 hcj).1 hLj
      obtain ⟨t1, t2, t3, t4⟩ := h.tmps hi hL hun' hdist hroom' u (us ++ [u]) husame (.inl hua)
      refine ⟨us ++ [u], t1, t2, t3, t4, fun j hj hcj => ?_, fun hm0 j hj hcj => ?_, by simp; omega, hclosed, hr⟩
      · by_cases hji : j = i
        · subst hji
          simp [hL, hk]
        · rw [hkeep j hji, h.steps j hj hcj]
          have h3 := List.all_eq_true.1 hinj j (List.mem_range.2 hj)
          simp only [hcj, Bool.not_true, Bool.false_or, Bool.or_eq_true, bne_iff_ne, ne_eq, beq_iff_eq] at h3
          have h4 := h3.resolve_right hji
          simp; omega
      · rw [hkeep j (fun e => by rw [e, hc] at hcj; cases hcj)]
        simp at hm0
        rcases hall with h3 | h3
        · exact h.early (by omega) j hj hcj
        · have h4 := List.all_eq_true.1 h3 j (List.mem_range.2 hj)
          simp only [hcj, Bool.false_or, Bool.or_eq_true] at h4
          rcases h4 with h4 | h4
          · obtain ⟨e, he, hb, rfl⟩ := any_edge h4
            exact hp e he hb
          · exact reach_done h.closed 4 o hp h4
  · rintro L a w ⟨us, h⟩ hdone
    have hum : us.length = m := by
      have := h.count
      unfold lastB at hlast
      simp only [Bool.or_eq_true, beq_iff_eq, List.any_eq_true, Bool.and_eq_true] at hlast
      rcases hlast with h1 | ⟨i, h1, h2, h3⟩
      · omega
      · have := (h.steps i (List.mem_range.1 h1) h2).1 (hdone i (List.mem_range.1 h1))
        omega
    have hact : a = chainAct ops cl a0 us := by
      obtain ⟨t, d⟩ := a
      have h1 := h.defers
      simp only at h1
      subst h1
      unfold chainAct
      have h2 := fill_unique (pairs ops fun i => some (valAt cl us i)) (pairs_nodup _ hnd) a0.tmps t h.size (fun d hd => ?_) (fun p hp _ => ?_)
      · rw [← h2]
      · refine h.out d fun i o hi _ hd2 => ?_
        exact hd _ (pairs_has hi hd2 rfl) rfl
      · obtain ⟨i, o, hi, hd, hv⟩ := pairs_mem hp
        have := h.inn i o p.1 hi (hdone i (Array.getElem?_eq_some_iff.1 hi).1) hd
        rw [this]; exact hv
    rw [hact]
    exact hend us w hum h.rel
  · have : (List.filter (fun i => !(Array.replicate ops.size false).getD i false) (List.range ops.size)).length ≤ (List.range ops.size).length := List.length_filter_le _ _
    unfold unlisted
    simpa using this
  · have hno : ∀ i, (Array.replicate ops.size false).getD i false = true → False := fun i hL => by
      simp at hL; rcases Nat.lt_or_ge i ops.size with h | h <;> simp [h] at hL
    refine ⟨[], rfl, rfl, fun _ _ => rfl, fun i o d _ hL _ => (hno i hL).elim, fun i _ _ => ⟨fun hL => (hno i hL).elim, fun h => by simp at h⟩, fun h => by simp at h, by simp, fun i o _ hL => (hno i hL).elim, h0⟩

/-! The same in the form in which it is used: up to the m0-th step all is made in new memory; what is told of it (G) stays true as memory grows; from there on F. -/
def ValsOk (P : Program) (af : Act) (B : Nat) (W : World) : List Oper → List Stp → Prop
  | o :: os, .val v :: cs => (∀ w, Below B W w → o.wp P af w (fun a' w' => a' = af.put o.dst v ∧ Below w.heap.size w w') (fun _ _ _ => False)) ∧ ValsOk P af B W os cs
  | _ :: os, .step :: cs => ValsOk P af B W os cs
  | _, _ => True
def StepsOk (P : Program) (af : List Value → Act) (B : Nat) (W : World) (G F : List Value → World → Prop) (m0 : Nat) : List Value → List Oper → List Stp → Prop
  | us, o :: os, .step :: cs => (if us.length < m0 then ∀ w, Below B W w → G us w → o.wp P (af us) w (fun a' w' => ∃ u, a' = (af us).put o.dst u ∧ Below B W w' ∧ G (us ++ [u]) w') (fun _ _ _ => False)
      else if us.length = m0 then ∀ w, Below B W w → G us w → o.wp P (af us) w (fun a' w' => ∃ u, a' = (af us).put o.dst u ∧ F (us ++ [u]) w') (fun _ _ _ => False)
      else ∀ w, F us w → o.wp P (af us) w (fun a' w' => ∃ u, a' = (af us).put o.dst u ∧ F (us ++ [u]) w') (fun _ _ _ => False)) ∧ ∀ u, StepsOk P af B W G F m0 (us ++ [u]) os cs
  | us, _ :: os, .val _ :: cs => StepsOk P af B W G F m0 us os cs
  | _, _, _ => True
def chainR (B : Nat) (W : World) (G F : List Value → World → Prop) (m0 : Nat) (us : List Value) (w : World) : Prop := if us.length ≤ m0 then Below B W w ∧ G us w else F us w

theorem ValsOk.to {af : Act} {B : Nat} {W : World} {G F : List Value → World → Prop} {m0 : Nat} : ∀ (os : List Oper) (cs : List Stp), ValsOk P af B W os cs → ValOk2 P af m0 (chainR B W G F m0) os cs
  | [], _, _ => by unfold ValOk2; trivial
  | _ :: _, [], _ => by unfold ValOk2; trivial
  | o :: os, .val v :: cs, h => ⟨fun us w hus hr => by unfold chainR at hr; rw [if_pos hus] at hr; exact h.1 w hr.1, ValsOk.to os cs h.2⟩
  | o :: os, .step :: cs, h => ValsOk.to (af := af) (B := B) (W := W) os cs h
theorem StepsOk.to {af : List Value → Act} {B : Nat} {W : World} {G F : List Value → World → Prop} {m0 : Nat} : ∀ (os : List Oper) (cs : List Stp) (k : Nat), (∀ us, us.length = k → StepsOk P af B W G F m0 us os cs) → StepOk P af (chainR B W G F m0) k os cs
  | [], _, _, _ => by unfold StepOk; trivial
  | _ :: _, [], _, _ => by unfold StepOk; trivial
  | o :: os, .val v :: cs, k, h => StepsOk.to os cs k h
  | o :: os, .step :: cs, k, h => by
    refine ⟨fun us w hus hr => ?_, StepsOk.to os cs (k + 1) fun us hus => ?_⟩
    · have h1 := (h us hus).1
      unfold chainR at hr
      by_cases c1 : us.length < m0
      · rw [if_pos c1] at h1
        rw [if_pos (by omega)] at hr
        refine Oper.wp_mono ?_ (h1 w hr.1 hr.2)
        rintro a' w' ⟨u, rfl, hb, hg⟩
        exact ⟨u, rfl, by unfold chainR; rw [if_pos (by simp; omega)]; exact ⟨hb, hg⟩⟩
      · rw [if_neg c1] at h1
        by_cases c2 : us.length = m0
        · rw [if_pos c2] at h1
          rw [if_pos (by omega)] at hr
          refine Oper.wp_mono ?_ (h1 w hr.1 hr.2)
          rintro a' w' ⟨u, rfl, hf⟩
          exact ⟨u, rfl, by unfold chainR; rw [if_neg (by simp; omega)]; exact hf⟩
        · rw [if_neg c2] at h1
          rw [if_neg (by omega)] at hr
          refine Oper.wp_mono ?_ (h1 w hr)
          rintro a' w' ⟨u, rfl, hf⟩
          exact ⟨u, rfl, by unfold chainR; rw [if_neg (by simp; omega)]; exact hf⟩
    · obtain ⟨us', u, rfl⟩ : ∃ us' u, us = us' ++ [u] := ⟨us.dropLast, us.getLast (by intro e; rw [e] at hus; simp at hus), (List.dropLast_concat_getLast _).symm⟩
      exact (h us' (by simpa using hus)).2 u

theorem wp_region_stepsB {id : Nat} {a0 : Act} {w0 : World} (cl : List Stp) (m0 m : Nat) (B : Nat) (W : World) (hB : B ≤ W.heap.size) (G F : List Value → World → Prop) (af : List Value → Act) (hm : P.follows .mixedOrders = true) (hlen : cl.length = ops.size)
    (hback : (ops.toList.zipIdx.all fun (o, i) => o.after.all fun e => decide (e.on < i)) = true) (hguard : (ops.all fun o => o.guard.isNone) = true)
    (hdst : nodupB (ops.toList.filterMap (·.dst)) = true) (hroom : (ops.toList.filterMap (·.dst)).all (fun d => decide (d < a0.tmps.size)) = true) (hreads : readsB ops cl = true)
    (hvald : ((List.range ops.size).all fun i => stepIs cl i || ((ops[i]?).bind (·.dst)).isSome) = true)
    (hchain : chainB ops cl m0 m = true) (hlast : lastB ops cl m = true) (haf : af = chainAct ops cl a0)
    (hG : ∀ us w w', G us w → Below w.heap.size w w' → G us w') (h0 : Below B W w0) (hg0 : G [] w0.drew)
    (hval : ValsOk P (af []) B W ops.toList cl) (hstep : StepsOk P af B W G F m0 [] ops.toList cl)
    (hend : ∀ us w, us.length = m → (if m ≤ m0 then Below B W w ∧ G us w else F us w) → Q .normal (af us) w) :
    (Code.region id ops true).wp P Q a0 w0 := by
  refine wp_region_chain cl m0 m (chainR B W G F m0) af hm hlen hback hguard hdst hroom hreads hvald hchain hlast haf ?_ ?_ (ValsOk.to _ _ hval) (StepsOk.to _ _ 0 fun us hus => ?_) fun us w hus hr => hend us w hus ?_
  · intro us w w' hus hr hb
    unfold chainR at hr ⊢
    rw [if_pos hus] at hr ⊢
    exact ⟨hr.1.trans (hb.mono (Nat.le_trans hB hr.1.size)), hG us w w' hr.2 hb⟩
  · unfold chainR
    rw [if_pos (by simp)]
    exact ⟨h0.drew, hg0⟩
  · obtain rfl := List.eq_nil_of_length_eq_zero hus
    exact hstep
  · unfold chainR at hr
    rw [hus] at hr; exact hr
theorem wp_region_steps {id : Nat} {a0 : Act} {w0 : World} (cl : List Stp) (m0 m : Nat) (W : World) (G F : List Value → World → Prop) (af : List Value → Act) (hm : P.follows .mixedOrders = true) (hlen : cl.length = ops.size)
    (hback : (ops.toList.zipIdx.all fun (o, i) => o.after.all fun e => decide (e.on < i)) = true) (hguard : (ops.all fun o => o.guard.isNone) = true)
    (hdst : nodupB (ops.toList.filterMap (·.dst)) = true) (hroom : (ops.toList.filterMap (·.dst)).all (fun d => decide (d < a0.tmps.size)) = true) (hreads : readsB ops cl = true)
    (hvald : ((List.range ops.size).all fun i => stepIs cl i || ((ops[i]?).bind (·.dst)).isSome) = true)
    (hchain : chainB ops cl m0 m = true) (hlast : lastB ops cl m = true) (haf : af = chainAct ops cl a0)
    (hG : ∀ us w w', G us w → Below w.heap.size w w' → G us w') (h0 : Below W.heap.size W w0) (hg0 : G [] w0.drew)
    (hval : ValsOk P (af []) W.heap.size W ops.toList cl) (hstep : StepsOk P af W.heap.size W G F m0 [] ops.toList cl)
    (hend : ∀ us w, us.length = m → (if m ≤ m0 then Below W.heap.size W w ∧ G us w else F us w) → Q .normal (af us) w) :
    (Code.region id ops true).wp P Q a0 w0 :=
  wp_region_stepsB cl m0 m W.heap.size W (Nat.le_refl _) G F af hm hlen hback hguard hdst hroom hreads hvald hchain hlast haf hG h0 hg0 hval hstep hend
end
/- Plus of package exact: what it counts. (Written by wip/exact/genplus.py.) -/

theorem mixedOrders2 : Tryz.prog.follows .mixedOrders = true := by kernel_rfl
theorem len_of_val {xs ys : List Nat} (hx : Limbs xs) (hy : Limbs ys) (hc : Canon xs) (h : val xs ≤ val ys) : xs.length ≤ ys.length := by
  have e := natL_val hx hc
  rw [← e]
  exact natL_length_le.2 (Nat.lt_of_le_of_lt h (val_lt hy))
theorem exact_size_told (A B : Option Addr) (c d : Nat) (xs ys : List Nat) (hcx : Canon xs) (hcy : Canon ys) (hn : xs.length ≤ 4611686018427387904) (hm : ys.length ≤ 4611686018427387904) (w : World) (h : Raw w A c xs) (g : Raw w B d ys) :
    Calls Tryz.prog 99 #[.slice A xs.length c, .slice B ys.length d] w fun e w' => ∃ k : Int, e = .returned (.int .i64 k) ∧ ((val ys ≤ val xs → 0 ≤ k) ∧ (val xs < val ys → k < 0)) ∧ Below w.heap.size w w' := by
  refine (exact_size_any A B c d xs ys hcx hcy hn hm w h g).mono ?_
  rintro e w' ⟨k, rfl, h1, h2, h3, h4, h5, hb⟩
  refine ⟨k, rfl, ⟨fun h => ?_, h3⟩, hb⟩
  rcases Nat.lt_or_eq_of_le h with h | h
  · exact Int.le_of_lt (h5 h)
  · rw [h4 h.symm]; omega

theorem exact_Plus_like (n1 : Bool) (A B : Option Addr) (c d : Nat) (xs ys : List Nat) (hlx : xs.length ≤ 536870912) (hly : ys.length ≤ 536870912) (z : Int) (HZV : Hid (z = if n1 then -((val xs + val ys : Nat) : Int) else ((val xs + val ys : Nat) : Int))) (w : World) (h : Raw w A c xs) (g : Raw w B d ys) :
    Calls Tryz.prog 75 #[.agg #[.bool n1, .slice A xs.length c], .agg #[.bool n1, .slice B ys.length d]] w (RetInt w.heap.size w z) := by
  have px := ((Pair.new w 25 (.bool n1) (.slice A xs.length c)).alloc (.cells #[.bool n1, .slice B ys.length d] 25)).alloc (.cells #[.bool false, .slice none 0 0] 25)
  have py := (Pair.new (w.alloc (.cells #[.bool n1, .slice A xs.length c] 25)) 25 (.bool n1) (.slice B ys.length d)).alloc (.cells #[.bool false, .slice none 0 0] 25)
  have pr := Pair.new ((w.alloc (.cells #[.bool n1, .slice A xs.length c] 25)).alloc (.cells #[.bool n1, .slice B ys.length d] 25)) 25 (.bool false) (.slice none 0 0)
  have rx := (((h.alloc (.cells #[.bool n1, .slice A xs.length c] 25)).alloc (.cells #[.bool n1, .slice B ys.length d] 25)).alloc (.cells #[.bool false, .slice none 0 0] 25))
  have ry := (((g.alloc (.cells #[.bool n1, .slice A xs.length c] 25)).alloc (.cells #[.bool n1, .slice B ys.length d] 25)).alloc (.cells #[.bool false, .slice none 0 0] 25))
  have b0 := (((Below.refl w.heap.size w).alloc (Nat.le_refl _) (.cells #[.bool n1, .slice A xs.length c] 25)).alloc (by simp) (.cells #[.bool n1, .slice B ys.length d] 25)).alloc (by simp; omega) (.cells #[.bool false, .slice none 0 0] 25)
  simp only [World.size_alloc] at py pr
  clear h g
  go_enter Tryz.func75, Tryz.ntmps75
  go_wp2_with fail
  obtain ⟨W, E⟩ : ∃ W, W = ((w.alloc (.cells #[.bool n1, .slice A xs.length c] 25)).alloc (.cells #[.bool n1, .slice B ys.length d] 25)).alloc (.cells #[.bool false, .slice none 0 0] 25) := ⟨_, rfl⟩
  rw [← E] at px py pr b0 rx ry ⊢
  clear E
  have PX := Hd px
  have PY := Hd py
  have PR := Hd pr
  have B0 := Hd b0
  have RX := Hd rx
  have RY := Hd ry
  have hlr := pr.blk.lt
  have hsz := b0.size
  obtain ⟨l1, x0, x1, -, -⟩ := px.facts
  obtain ⟨l2, y0, y1, -, -⟩ := py.facts
  clear px py pr rx ry b0
  have C1 := Hd (fun (V : World) (hV : Below W.heap.size W V) => exact_add A B c d xs ys (by omega) (by omega) V (RX.out.below hV) (RY.out.below hV))
  have C2 := Hd (fun (V : World) (v : Value) (hV : OwnL V W.heap.size v (val xs + val ys) (max xs.length ys.length + 1)) => show Calls Tryz.prog 100 #[.bool n1, v] V (RetInt W.heap.size V z) from by rw [HZV.out]; exact exact_signed_own n1 v _ _ _ V hV)
  have HW := Hd (Below.refl W.heap.size W)
  refine wp_region_steps [.val (.pointer (some ⟨w.heap.size, 0, none⟩)), .val (.bool n1), .val (.pointer (some ⟨w.heap.size, 1, none⟩)), .val (.slice A xs.length c), .val (.pointer (some ⟨w.heap.size + 1, 1, none⟩)), .val (.slice B ys.length d), .step, .step, .step] 2 3 W
    (fun us V => match us with
      | [] => True
      | [va] => OwnL V W.heap.size va (val xs + val ys) (max xs.length ys.length + 1)
      | [_, vb] => IntOwn V W.heap.size vb z
      | _ => False)
    (fun _ V => ∃ A1 c1, IntOwn V W.heap.size (.agg #[.bool (decide (z < 0)), .slice A1 (natL z.natAbs).length c1]) z ∧ Pair V (w.heap.size + 1 + 1) 25 (.bool (decide (z < 0))) (.slice A1 (natL z.natAbs).length c1) ∧ Below w.heap.size w V)
    _ mixedOrders2 (by kernel_rfl) (by kernel_rfl) (by kernel_rfl) (by kernel_rfl) (by kernel_rfl) (by kernel_rfl) (by kernel_rfl) (by kernel_rfl) (by kernel_rfl) rfl ?_ HW.out trivial ?_ ?_ ?_
  · intro us V V' hg hb
    match us, hg with
    | [], _ => trivial
    | [va], hg => exact hg.below hb
    | [va, vb], hg => exact hg.below hb
  · simp [ValsOk, chainAct, fill, pairs, valAt]
    repeat' apply And.intro
    all_goals
      intro V hV
      obtain ⟨-, e0, e1, -, -⟩ := (PX.out.below hV).facts
      obtain ⟨-, f0, f1, -, -⟩ := (PY.out.below hV).facts
      clear hV
      go_simp
      exact Below.refl _ _
  · simp [StepsOk, chainAct, fill, pairs, valAt, stepNo, List.filter, Stp.isStep]
    refine ⟨fun V hV => ?_, fun va => ⟨fun V hV hva => ?_, fun vb V hV hvb => ?_⟩⟩
    · go_simp
      refine (C1.out V hV).mono ?_
      rintro e w' ⟨v, rfl, hv, hb⟩
      exact ⟨belowTo hV hb, hv.base hV.size⟩
    · go_simp
      refine (C2.out V va hva).mono ?_
      rintro e w' ⟨v, rfl, hv, hb⟩
      exact ⟨belowTo hV hb, hv⟩
    · obtain ⟨A1, c1, rfl, -⟩ := hvb.form
      have pr := PR.out.below hV
      obtain ⟨p1, p2, p3, p4, p5⟩ := pr.facts
      go_simp
      exact ⟨A1, c1, hvb.pair (by omega), pr.store _ _, below2 (belowTo B0.out hV) (by omega) _ _⟩
  · intro us V hus hF
    simp only [show ¬ (3 ≤ 2) by decide, if_false] at hF
    obtain ⟨A1, c1, hI, pr, hb⟩ := hF
    obtain ⟨u0, u1, u2, rfl⟩ : ∃ u0 u1 u2, us = [u0, u1, u2] := by
      match us, hus with
      | [u0, u1, u2], _ => exact ⟨u0, u1, u2, rfl⟩
    simp [chainAct, fill, pairs, valAt, stepNo, List.filter, Stp.isStep]
    obtain ⟨_, k0, k1, _, _⟩ := pr.facts
    clear PX PY RX RY l1 x0 x1 l2 y0 y1
    go_wp2_with fail
    exact bodyPost_ret (by simp [results, Tryz.results75, go_sem, k0, k1]) rfl ⟨_, rfl, hI.base hsz, hb⟩

theorem exact_Plus_x (n1 n2 : Bool) (hne : (n1 == n2) = false) (A B : Option Addr) (c d : Nat) (xs ys : List Nat) (hcx : Canon xs) (hcy : Canon ys) (hle : val ys ≤ val xs) (hlx : xs.length ≤ 536870912) (hly : ys.length ≤ 536870912) (z : Int) (HZV : Hid (z = if n1 then -((val xs - val ys : Nat) : Int) else ((val xs - val ys : Nat) : Int))) (w : World) (h : Raw w A c xs) (g : Raw w B d ys) :
    Calls Tryz.prog 75 #[.agg #[.bool n1, .slice A xs.length c], .agg #[.bool n2, .slice B ys.length d]] w (RetInt w.heap.size w z) := by
  have hlen : ys.length ≤ xs.length := len_of_val g.limbs h.limbs hcy (by omega)
  have HLE := Hd (show val ys ≤ val xs by omega)
  have px := ((Pair.new w 25 (.bool n1) (.slice A xs.length c)).alloc (.cells #[.bool n2, .slice B ys.length d] 25)).alloc (.cells #[.bool false, .slice none 0 0] 25)
  have py := (Pair.new (w.alloc (.cells #[.bool n1, .slice A xs.length c] 25)) 25 (.bool n2) (.slice B ys.length d)).alloc (.cells #[.bool false, .slice none 0 0] 25)
  have pr := Pair.new ((w.alloc (.cells #[.bool n1, .slice A xs.length c] 25)).alloc (.cells #[.bool n2, .slice B ys.length d] 25)) 25 (.bool false) (.slice none 0 0)
  have rx := (((h.alloc (.cells #[.bool n1, .slice A xs.length c] 25)).alloc (.cells #[.bool n2, .slice B ys.length d] 25)).alloc (.cells #[.bool false, .slice none 0 0] 25))
  have ry := (((g.alloc (.cells #[.bool n1, .slice A xs.length c] 25)).alloc (.cells #[.bool n2, .slice B ys.length d] 25)).alloc (.cells #[.bool false, .slice none 0 0] 25))
  have b0 := (((Below.refl w.heap.size w).alloc (Nat.le_refl _) (.cells #[.bool n1, .slice A xs.length c] 25)).alloc (by simp) (.cells #[.bool n2, .slice B ys.length d] 25)).alloc (by simp; omega) (.cells #[.bool false, .slice none 0 0] 25)
  simp only [World.size_alloc] at py pr
  clear h g
  go_enter Tryz.func75, Tryz.ntmps75
  go_wp2_with fail
  obtain ⟨W, E⟩ : ∃ W, W = ((w.alloc (.cells #[.bool n1, .slice A xs.length c] 25)).alloc (.cells #[.bool n2, .slice B ys.length d] 25)).alloc (.cells #[.bool false, .slice none 0 0] 25) := ⟨_, rfl⟩
  rw [← E] at px py pr b0 rx ry ⊢
  clear E
  have PX := Hd px
  have PY := Hd py
  have PR := Hd pr
  have B0 := Hd b0
  have RX := Hd rx
  have RY := Hd ry
  have hlr := pr.blk.lt
  have hsz := b0.size
  obtain ⟨l1, x0, x1, -, -⟩ := px.facts
  obtain ⟨l2, y0, y1, -, -⟩ := py.facts
  clear px py pr rx ry b0
  have C0 := Hd (fun (V : World) (hV : Below W.heap.size W V) => exact_size_told A B c d xs ys hcx hcy (by omega) (by omega) V (RX.out.below hV) (RY.out.below hV))
  have C1 := Hd (fun (V : World) (hV : Below W.heap.size W V) => exact_sub A B c d xs ys hlen HLE.out (by omega) V (RX.out.below hV) (RY.out.below hV))
  have C2 := Hd (fun (V : World) (v : Value) (hV : OwnL V W.heap.size v (val xs - val ys) xs.length) => show Calls Tryz.prog 100 #[.bool n1, v] V (RetInt W.heap.size V z) from by rw [HZV.out]; exact exact_signed_own n1 v _ _ _ V hV)
  refine (C0.out W (Below.refl _ _)).mono ?_
  rintro e wz ⟨k, rfl, hk, hbz⟩
  have HW := Hd hbz
  have hk2 := hk.1 hle
  have hdk : decide ((0 : Int) ≤ k) = true := by simp; omega
  obtain ⟨-, xz0, xz1, -, -⟩ := (PX.out.below hbz).facts
  obtain ⟨-, yz0, yz1, -, -⟩ := (PY.out.below hbz).facts
  clear hk hbz C0 hle hcx hcy hne
  go_wp2_with fail
  refine wp_region_steps [.val (.pointer (some ⟨w.heap.size, 0, none⟩)), .val (.bool n1), .val (.pointer (some ⟨w.heap.size, 1, none⟩)), .val (.slice A xs.length c), .val (.pointer (some ⟨w.heap.size + 1, 1, none⟩)), .val (.slice B ys.length d), .step, .step, .step] 2 3 W
    (fun us V => match us with
      | [] => True
      | [va] => OwnL V W.heap.size va (val xs - val ys) (xs.length)
      | [_, vb] => IntOwn V W.heap.size vb z
      | _ => False)
    (fun _ V => ∃ A1 c1, IntOwn V W.heap.size (.agg #[.bool (decide (z < 0)), .slice A1 (natL z.natAbs).length c1]) z ∧ Pair V (w.heap.size + 1 + 1) 25 (.bool (decide (z < 0))) (.slice A1 (natL z.natAbs).length c1) ∧ Below w.heap.size w V)
    _ mixedOrders2 (by kernel_rfl) (by kernel_rfl) (by kernel_rfl) (by kernel_rfl) (by kernel_rfl) (by kernel_rfl) (by kernel_rfl) (by kernel_rfl) (by kernel_rfl) rfl ?_ HW.out trivial ?_ ?_ ?_
  · intro us V V' hg hb
    match us, hg with
    | [], _ => trivial
    | [va], hg => exact hg.below hb
    | [va, vb], hg => exact hg.below hb
  · simp [ValsOk, chainAct, fill, pairs, valAt]
    repeat' apply And.intro
    all_goals
      intro V hV
      obtain ⟨-, e0, e1, -, -⟩ := (PX.out.below hV).facts
      obtain ⟨-, f0, f1, -, -⟩ := (PY.out.below hV).facts
      clear hV
      go_simp
      exact Below.refl _ _
  · simp [StepsOk, chainAct, fill, pairs, valAt, stepNo, List.filter, Stp.isStep]
    refine ⟨fun V hV => ?_, fun va => ⟨fun V hV hva => ?_, fun vb V hV hvb => ?_⟩⟩
    · go_simp
      refine (C1.out V hV).mono ?_
      rintro e w' ⟨v, rfl, hv, hb⟩
      exact ⟨belowTo hV hb, hv.base hV.size⟩
    · go_simp
      refine (C2.out V va hva).mono ?_
      rintro e w' ⟨v, rfl, hv, hb⟩
      exact ⟨belowTo hV hb, hv⟩
    · obtain ⟨A1, c1, rfl, -⟩ := hvb.form
      have pr := PR.out.below hV
      obtain ⟨p1, p2, p3, p4, p5⟩ := pr.facts
      go_simp
      exact ⟨A1, c1, hvb.pair (by omega), pr.store _ _, below2 (belowTo B0.out hV) (by omega) _ _⟩
  · intro us V hus hF
    simp only [show ¬ (3 ≤ 2) by decide, if_false] at hF
    obtain ⟨A1, c1, hI, pr, hb⟩ := hF
    obtain ⟨u0, u1, u2, rfl⟩ : ∃ u0 u1 u2, us = [u0, u1, u2] := by
      match us, hus with
      | [u0, u1, u2], _ => exact ⟨u0, u1, u2, rfl⟩
    simp [chainAct, fill, pairs, valAt, stepNo, List.filter, Stp.isStep]
    obtain ⟨_, k0, k1, _, _⟩ := pr.facts
    clear PX PY RX RY l1 x0 x1 l2 y0 y1 xz0 xz1 yz0 yz1
    go_wp2_with fail
    exact bodyPost_ret (by simp [results, Tryz.results75, go_sem, k0, k1]) rfl ⟨_, rfl, hI.base hsz, hb⟩

theorem exact_Plus_y (n1 n2 : Bool) (hne : (n1 == n2) = false) (A B : Option Addr) (c d : Nat) (xs ys : List Nat) (hcx : Canon xs) (hcy : Canon ys) (hle : val xs < val ys) (hlx : xs.length ≤ 536870912) (hly : ys.length ≤ 536870912) (z : Int) (HZV : Hid (z = if n2 then -((val ys - val xs : Nat) : Int) else ((val ys - val xs : Nat) : Int))) (w : World) (h : Raw w A c xs) (g : Raw w B d ys) :
    Calls Tryz.prog 75 #[.agg #[.bool n1, .slice A xs.length c], .agg #[.bool n2, .slice B ys.length d]] w (RetInt w.heap.size w z) := by
  have hlen : xs.length ≤ ys.length := len_of_val h.limbs g.limbs hcx (by omega)
  have HLE := Hd (show val xs ≤ val ys by omega)
  have px := ((Pair.new w 25 (.bool n1) (.slice A xs.length c)).alloc (.cells #[.bool n2, .slice B ys.length d] 25)).alloc (.cells #[.bool false, .slice none 0 0] 25)
  have py := (Pair.new (w.alloc (.cells #[.bool n1, .slice A xs.length c] 25)) 25 (.bool n2) (.slice B ys.length d)).alloc (.cells #[.bool false, .slice none 0 0] 25)
  have pr := Pair.new ((w.alloc (.cells #[.bool n1, .slice A xs.length c] 25)).alloc (.cells #[.bool n2, .slice B ys.length d] 25)) 25 (.bool false) (.slice none 0 0)
  have rx := (((h.alloc (.cells #[.bool n1, .slice A xs.length c] 25)).alloc (.cells #[.bool n2, .slice B ys.length d] 25)).alloc (.cells #[.bool false, .slice none 0 0] 25))
  have ry := (((g.alloc (.cells #[.bool n1, .slice A xs.length c] 25)).alloc (.cells #[.bool n2, .slice B ys.length d] 25)).alloc (.cells #[.bool false, .slice none 0 0] 25))
  have b0 := (((Below.refl w.heap.size w).alloc (Nat.le_refl _) (.cells #[.bool n1, .slice A xs.length c] 25)).alloc (by simp) (.cells #[.bool n2, .slice B ys.length d] 25)).alloc (by simp; omega) (.cells #[.bool false, .slice none 0 0] 25)
  simp only [World.size_alloc] at py pr
  clear h g
  go_enter Tryz.func75, Tryz.ntmps75
  go_wp2_with fail
  obtain ⟨W, E⟩ : ∃ W, W = ((w.alloc (.cells #[.bool n1, .slice A xs.length c] 25)).alloc (.cells #[.bool n2, .slice B ys.length d] 25)).alloc (.cells #[.bool false, .slice none 0 0] 25) := ⟨_, rfl⟩
  rw [← E] at px py pr b0 rx ry ⊢
  clear E
  have PX := Hd px
  have PY := Hd py
  have PR := Hd pr
  have B0 := Hd b0
  have RX := Hd rx
  have RY := Hd ry
  have hlr := pr.blk.lt
  have hsz := b0.size
  obtain ⟨l1, x0, x1, -, -⟩ := px.facts
  obtain ⟨l2, y0, y1, -, -⟩ := py.facts
  clear px py pr rx ry b0
  have C0 := Hd (fun (V : World) (hV : Below W.heap.size W V) => exact_size_told A B c d xs ys hcx hcy (by omega) (by omega) V (RX.out.below hV) (RY.out.below hV))
  have C1 := Hd (fun (V : World) (hV : Below W.heap.size W V) => exact_sub B A d c ys xs hlen HLE.out (by omega) V (RY.out.below hV) (RX.out.below hV))
  have C2 := Hd (fun (V : World) (v : Value) (hV : OwnL V W.heap.size v (val ys - val xs) ys.length) => show Calls Tryz.prog 100 #[.bool n2, v] V (RetInt W.heap.size V z) from by rw [HZV.out]; exact exact_signed_own n2 v _ _ _ V hV)
  refine (C0.out W (Below.refl _ _)).mono ?_
  rintro e wz ⟨k, rfl, hk, hbz⟩
  have HW := Hd hbz
  have hk2 := hk.2 hle
  have hdk : decide ((0 : Int) ≤ k) = false := by simp; omega
  obtain ⟨-, xz0, xz1, -, -⟩ := (PX.out.below hbz).facts
  obtain ⟨-, yz0, yz1, -, -⟩ := (PY.out.below hbz).facts
  clear hk hbz C0 hle hcx hcy hne
  go_wp2_with fail
  refine wp_region_steps [.val (.pointer (some ⟨w.heap.size + 1, 0, none⟩)), .val (.bool n2), .val (.pointer (some ⟨w.heap.size + 1, 1, none⟩)), .val (.slice B ys.length d), .val (.pointer (some ⟨w.heap.size, 1, none⟩)), .val (.slice A xs.length c), .step, .step, .step] 2 3 W
    (fun us V => match us with
      | [] => True
      | [va] => OwnL V W.heap.size va (val ys - val xs) (ys.length)
      | [_, vb] => IntOwn V W.heap.size vb z
      | _ => False)
    (fun _ V => ∃ A1 c1, IntOwn V W.heap.size (.agg #[.bool (decide (z < 0)), .slice A1 (natL z.natAbs).length c1]) z ∧ Pair V (w.heap.size + 1 + 1) 25 (.bool (decide (z < 0))) (.slice A1 (natL z.natAbs).length c1) ∧ Below w.heap.size w V)
    _ mixedOrders2 (by kernel_rfl) (by kernel_rfl) (by kernel_rfl) (by kernel_rfl) (by kernel_rfl) (by kernel_rfl) (by kernel_rfl) (by kernel_rfl) (by kernel_rfl) rfl ?_ HW.out trivial ?_ ?_ ?_
  · intro us V V' hg hb
    match us, hg with
    | [], _ => trivial
    | [va], hg => exact hg.below hb
    | [va, vb], hg => exact hg.below hb
  · simp [ValsOk, chainAct, fill, pairs, valAt]
    repeat' apply And.intro
    all_goals
      intro V hV
      obtain ⟨-, e0, e1, -, -⟩ := (PX.out.below hV).facts
      obtain ⟨-, f0, f1, -, -⟩ := (PY.out.below hV).facts
      clear hV
      go_simp
      exact Below.refl _ _
  · simp [StepsOk, chainAct, fill, pairs, valAt, stepNo, List.filter, Stp.isStep]
    refine ⟨fun V hV => ?_, fun va => ⟨fun V hV hva => ?_, fun vb V hV hvb => ?_⟩⟩
    · go_simp
      refine (C1.out V hV).mono ?_
      rintro e w' ⟨v, rfl, hv, hb⟩
      exact ⟨belowTo hV hb, hv.base hV.size⟩
    · go_simp
      refine (C2.out V va hva).mono ?_
      rintro e w' ⟨v, rfl, hv, hb⟩
      exact ⟨belowTo hV hb, hv⟩
    · obtain ⟨A1, c1, rfl, -⟩ := hvb.form
      have pr := PR.out.below hV
      obtain ⟨p1, p2, p3, p4, p5⟩ := pr.facts
      go_simp
      exact ⟨A1, c1, hvb.pair (by omega), pr.store _ _, below2 (belowTo B0.out hV) (by omega) _ _⟩
  · intro us V hus hF
    simp only [show ¬ (3 ≤ 2) by decide, if_false] at hF
    obtain ⟨A1, c1, hI, pr, hb⟩ := hF
    obtain ⟨u0, u1, u2, rfl⟩ : ∃ u0 u1 u2, us = [u0, u1, u2] := by
      match us, hus with
      | [u0, u1, u2], _ => exact ⟨u0, u1, u2, rfl⟩
    simp [chainAct, fill, pairs, valAt, stepNo, List.filter, Stp.isStep]
    obtain ⟨_, k0, k1, _, _⟩ := pr.facts
    clear PX PY RX RY l1 x0 x1 l2 y0 y1 xz0 xz1 yz0 yz1
    go_wp2_with fail
    exact bodyPost_ret (by simp [results, Tryz.results75, go_sem, k0, k1]) rfl ⟨_, rfl, hI.base hsz, hb⟩

theorem exact_Plus (n1 n2 : Bool) (A B : Option Addr) (c d : Nat) (xs ys : List Nat) (hcx : Canon xs) (hcy : Canon ys) (hlx : xs.length ≤ 536870912) (hly : ys.length ≤ 536870912) (w : World) (h : Raw w A c xs) (g : Raw w B d ys) :
    Calls Tryz.prog 75 #[.agg #[.bool n1, .slice A xs.length c], .agg #[.bool n2, .slice B ys.length d]] w (RetInt w.heap.size w (ival n1 xs + ival n2 ys)) := by
  by_cases hn : (n1 == n2) = true
  · obtain rfl : n1 = n2 := by simpa using hn
    exact exact_Plus_like n1 A B c d xs ys hlx hly _ (by unfold ival; show _ = _; cases n1 <;> simp <;> omega) w h g
  · have hn' : (n1 == n2) = false := by simpa using hn
    have hn2 : n2 = !n1 := by cases n1 <;> cases n2 <;> simp_all
    by_cases hle : val ys ≤ val xs
    · exact exact_Plus_x n1 n2 hn' A B c d xs ys hcx hcy hle hlx hly _ (by unfold ival; show _ = _; subst hn2; cases n1 <;> simp <;> omega) w h g
    · exact exact_Plus_y n1 n2 hn' A B c d xs ys hcx hcy (by omega) hlx hly _ (by unfold ival; show _ = _; subst hn2; cases n1 <;> simp <;> omega) w h g
/- add and sub of the references: what they count. (Written by wip/exact/genrefadd.py.) -/

/- Plus of package polestarref01: what it counts. (Written by wip/exact/genplus.py.) -/

end Go.Proofs.YtmcnmoljliggfaaGreatDoor
