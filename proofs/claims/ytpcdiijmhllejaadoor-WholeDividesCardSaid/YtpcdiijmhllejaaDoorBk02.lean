/- Several texts in one: Tuple, Chain, Free, Limbs. -/
import Derived.Test.YtpcdiijmhllejaaDoorBk01
import Derived.Deep.MidRow
/- A region that draws its order: 'a, b, c := f(x), g(y), h(z)', the variables in memory: values that do not hang on the order, variables made, values stored in them: ONE goal for all orders. -/
namespace Go.Proofs.YtpcdiijmhllejaaDoor
open Go.RowKit

section
variable {P : Program} {ops : Array Oper} {Q : Exit → Act → World → Prop}

def unlisted (n : Nat) (L : Array Bool) : Nat := ((List.range n).filter fun i => !L.getD i false).length
theorem unlisted_zero {n : Nat} {L : Array Bool} (h : unlisted n L = 0) (i : Nat) (hi : i < n) : L.getD i false = true := by
  unfold unlisted at h
  rw [List.length_eq_zero_iff, List.filter_eq_nil_iff] at h
  have := h i (List.mem_range.2 hi)
  simpa using this
theorem filter_less {α : Type} (l : List α) (p q : α → Bool) (hpq : ∀ x ∈ l, q x = true → p x = true) (x : α) (hx : x ∈ l) (hp : p x = true) (hq : q x = false) : (l.filter q).length < (l.filter p).length := by
  induction l with
  | nil => cases hx
  | cons y l ih =>
    have hle : (l.filter q).length ≤ (l.filter p).length := by
      clear ih hx
      induction l with
      | nil => simp
      | cons z l ih2 =>
        have h2 := ih2 (fun a ha hqa => hpq a (by simp at ha ⊢; rcases ha with h | h <;> simp [h]) hqa)
        have hz := hpq z (by simp)
        simp only [List.filter_cons]
        by_cases h1 : q z = true
        · rw [if_pos h1, if_pos (hz h1)]; simpa using h2
        · rw [if_neg h1]; split <;> simp <;> omega
    simp only [List.filter_cons]
    rcases List.mem_cons.1 hx with rfl | hx
    · rw [if_neg (by simp [hq]), if_pos hp]; simp; omega
    · have h2 := ih (fun a ha => hpq a (by simp [ha])) hx
      by_cases h1 : q y = true
      · rw [if_pos h1, if_pos (hpq y (by simp) h1)]; simpa using h2
      · rw [if_neg h1]; split <;> simp <;> omega
theorem unlisted_set {n i : Nat} {L : Array Bool} (hi : i < n) (hs : L.size = n) (h : L.getD i true = false) : unlisted n (L.setIfInBounds i true) < unlisted n L := by
  unfold unlisted
  have hl : i < L.size := by omega
  refine filter_less _ _ _ (fun x _ hx => ?_) i (List.mem_range.2 hi) ?_ ?_
  · simp only [Bool.not_eq_true'] at hx ⊢
    cases hb : L.getD x false with
    | false => rfl
    | true => rw [getD_set_true hb] at hx; cases hx
  · simp [hl] at h ⊢; exact h
  · simp [hl]

/-- Whatever order is picked: what is kept by each operation that may come up, holds at the end. -/
theorem wpAny_inv (I : Array Bool → Act → World → Prop) (hback : (ops.toList.zipIdx.all fun (o, i) => o.after.all fun e => decide (e.on < i)) = true) (hguard : (ops.all fun o => o.guard.isNone) = true)
    (hstep : ∀ L a w, I L a w → ∀ i o, ops[i]? = some o → L.size = ops.size → L.getD i true = false → (∀ e ∈ o.after, Region.binds .any e = true → L.getD e.on false = true) → o.wp P a w (I (L.setIfInBounds i true)) Q)
    (hend : ∀ L a w, I L a w → (∀ i, i < ops.size → L.getD i false = true) → Q .normal a w) :
    ∀ (fuel : Nat) (L : Array Bool) (a : Act) (w : World), L.size = ops.size → unlisted ops.size L ≤ fuel → I L a w → wpAny P .any ops Q fuel L a w := by
  have hall : ∀ L : Array Bool, L.size = ops.size → Region.ready .any ops L = [] → ∀ i, i < ops.size → L.getD i false = true := fun L hs hr i => by
    induction i using Nat.strongRecOn with
    | _ i ih =>
      intro hi
      cases hb : L.getD i false with
      | true => rfl
      | false =>
        exfalso
        have hmem : i ∈ Region.ready .any ops L := by
          rw [mem_ready]
          have hl : i < L.size := by omega
          refine ⟨by simp [hl] at hb ⊢; exact hb, ops[i], Array.getElem?_eq_getElem hi, fun e he _ => ?_⟩
          have h1 := List.all_eq_true.1 hback (ops[i], i) (by
            rw [List.mem_zipIdx_iff_getElem?]; simp [hi])
          simp only [Array.all_eq_true_iff_forall_mem] at h1
          have h2 := of_decide_eq_true (h1 e he)
          exact ih e.on h2 (by omega)
        rw [hr] at hmem; cases hmem
  intro fuel
  induction fuel with
  | zero =>
    intro L a w hs hu hI
    have h0 := unlisted_zero (Nat.le_zero.1 hu)
    refine ⟨?_, hend L a w hI h0⟩
    cases hr : Region.ready .any ops L with
    | nil => rfl
    | cons i rest =>
      have hm : i ∈ Region.ready .any ops L := by rw [hr]; simp
      obtain ⟨h1, o, ho, _⟩ := mem_ready.1 hm
      have hi : i < ops.size := (Array.getElem?_eq_some_iff.1 ho).1
      have h2 := h0 i hi
      have hl : i < L.size := by omega
      simp [hl] at h1 h2
      rw [h1] at h2; cases h2
  | succ fuel ih =>
    intro L a w hs hu hI
    refine ⟨fun hr => hend L a w hI (hall L hs hr), fun i hi => ?_⟩
    obtain ⟨h1, o, ho, hp⟩ := mem_ready.1 hi
    have hlt : i < ops.size := (Array.getElem?_eq_some_iff.1 ho).1
    have hg : o.guard = none := by
      have := Array.all_eq_true_iff_forall_mem.1 hguard o (Array.mem_of_getElem? ho)
      simpa using this
    unfold wpOp
    simp only [ho]
    have hw : Region.wanted o (yielded ops a.tmps) = true := by simp [Region.wanted, hg]
    rw [if_pos hw]
    refine .inl (Oper.wp_mono (fun a' w' h' => ih _ a' w' (by simp [hs]) ?_ h') (hstep L a w hI i o ho hs h1 hp))
    have := unlisted_set hlt hs h1
    omega

/-- Values put into temporaries, one behind the other. -/
def fill (t : Array Value) (l : List (Nat × Value)) : Array Value := l.foldl (fun t p => t.setIfInBounds p.1 p.2) t
theorem fill_size (l : List (Nat × Value)) : ∀ t : Array Value, (fill t l).size = t.size := by
  induction l with
  | nil => intro t; rfl
  | cons p l ih => intro t; show (fill _ l).size = _; rw [ih]; simp
theorem fill_other (l : List (Nat × Value)) (d : Nat) : ∀ t : Array Value, (∀ p ∈ l, p.1 ≠ d) → (fill t l)[d]? = t[d]? := by
  induction l with
  | nil => intro t _; rfl
  | cons p l ih =>
    intro t h
    show (fill _ l)[d]? = _
    rw [ih _ (fun q hq => h q (by simp [hq])), Array.getElem?_setIfInBounds_ne (h p (by simp))]
theorem fill_at (l : List (Nat × Value)) (hd : (l.map (·.1)).Nodup) (d : Nat) (v : Value) : ∀ t : Array Value, d < t.size → (d, v) ∈ l → (fill t l)[d]? = some v := by
  induction l with
  | nil => intro t _ h; cases h
  | cons p l ih =>
    intro t ht h
    simp only [List.map_cons, List.nodup_cons] at hd
    show (fill _ l)[d]? = _
    rcases List.mem_cons.1 h with rfl | h
    · rw [fill_other _ _ _ (fun q hq e => hd.1 (by simp only [List.mem_map]; exact ⟨q, hq, e⟩))]
      simp [ht]
    · exact ih hd.2 _ (by simpa using ht) h
theorem fill_unique (l : List (Nat × Value)) (hd : (l.map (·.1)).Nodup) (t u : Array Value) (hs : u.size = t.size) (ho : ∀ d, (∀ p ∈ l, p.1 ≠ d) → u[d]? = t[d]?) (ha : ∀ p ∈ l, p.1 < t.size → u[p.1]? = some p.2) : u = fill t l := by
  apply Array.ext_getElem?
  intro d
  by_cases h : ∃ p ∈ l, p.1 = d
  · obtain ⟨p, hp, rfl⟩ := h
    by_cases hl : p.1 < t.size
    · rw [ha p hp hl, fill_at l hd p.1 p.2 t hl hp]
    · rw [Array.getElem?_eq_none (by omega), Array.getElem?_eq_none (by rw [fill_size]; omega)]
  · have h' : ∀ p ∈ l, p.1 ≠ d := fun p hp e => h ⟨p, hp, e⟩
    rw [ho d h', fill_other l d t h']

/-- What an operation of such a region is: a value that does not hang on the order; a variable made (its type, its cells); a store of cells into a variable (the numbers of its making and of what is stored). -/
inductive Cls where
  | val (v : Value)
  | new (T : TypeId) (n : Nat)
  | put (ia ic : Nat) (l : Array Value)
  | old (x b : Nat) (T : TypeId) (ic : Nat) (l : Array Value)

def Cls.of (c : Cls) (b : Nat) : Value := match c with
  | .val v => v
  | .new _ _ => .pointer (some ⟨b, 0, none⟩)
  | .put _ _ _ => undef
  | .old _ _ _ _ _ => undef
/-- Temporaries and what is in them, operation by operation. -/
def pairs (ops : Array Oper) (f : Nat → Option Value) : List (Nat × Value) := ops.toList.zipIdx.filterMap fun (o, i) => match o.dst, f i with
  | some d, some v => some (d, v)
  | _, _ => none
def isVal (cls : Nat → Cls) (i : Nat) : Option Value := match cls i with
  | .val v => some v
  | _ => none
def readsOk (ops : Array Oper) (cls : Nat → Cls) : Bool := ops.toList.zipIdx.all fun (o, i) => match cls i with
  | .val _ => (match o.op with | .select _ _ => false | _ => true) && o.dst.isSome && o.op.operands.all fun x => match x with
    | .tmp t => (ops.all fun o' => o'.dst != some t) || o.after.any fun e => Region.binds .any e && ((isVal cls e.on).isSome && ((ops[e.on]?).bind (·.dst) == some t))
    | _ => true
  | _ => true

theorem upon_swap {o : Oper} {a1 a2 : Act} {v : Value} {R : World → Prop} {d : Nat} (hd : o.dst = some d) (hl : d < a1.tmps.size) {r : Result Next}
    (h : o.upon P a1 (fun a' w' => a' = a1.put o.dst v ∧ R w') (fun _ _ _ => False) r) : o.upon P a2 (fun a' w' => a' = a2.put o.dst v ∧ R w') Q r := by
  have key : ∀ u : Value, a1.put o.dst u = a1.put o.dst v → u = v := fun u e => by
    rw [hd] at e
    have := congrArg (fun a : Act => a.tmps[d]?) e
    simpa [Act.put, hl] using this
  cases r with
  | ok n w' =>
    cases n <;> simp only [Oper.upon] at h ⊢
    case value u => obtain ⟨e, hr⟩ := h; rw [key _ e]; exact ⟨rfl, hr⟩
    case skip => obtain ⟨e, hr⟩ := h; rw [key _ e]; exact ⟨rfl, hr⟩
    case defer dd =>
      obtain ⟨e, _⟩ := h
      have := congrArg (fun a : Act => a.defers.length) e
      rw [hd] at this
      simp [Act.put] at this
    case enter f args =>
      refine Calls.mono h fun e w'' he => ?_
      cases e with
      | returned u => obtain ⟨e, hr⟩ := he; rw [key _ e]; exact ⟨rfl, hr⟩
      | panicked c => exact he.elim
      | outgrown => obtain ⟨_, _, hf⟩ := he; exact hf.elim
    case row row args => exact Rows.mono h fun u w'' he => by obtain ⟨e, hr⟩ := he; rw [key _ e]; exact ⟨rfl, hr⟩
  | halt x w' => cases x <;> simp only [Oper.upon] at h ⊢

def setAll (cs : Array Value) : Nat → List Value → Array Value
  | _, [] => cs
  | o, v :: r => setAll (cs.setIfInBounds o v) (o + 1) r
theorem setAll_size : ∀ (l : List Value) (cs : Array Value) (o : Nat), (setAll cs o l).size = cs.size
  | [], _, _ => rfl
  | _ :: r, cs, o => by rw [setAll, setAll_size r]; simp
theorem setAll_before : ∀ (l : List Value) (cs : Array Value) (o j : Nat), j < o → (setAll cs o l)[j]? = cs[j]?
  | [], _, _, _, _ => rfl
  | v :: r, cs, o, j, h => by rw [setAll, setAll_before r _ _ _ (by omega), Array.getElem?_setIfInBounds_ne (by omega)]
theorem setAll_in : ∀ (l : List Value) (cs : Array Value) (o j : Nat), o ≤ j → j < o + l.length → j < cs.size → (setAll cs o l)[j]? = l[j - o]?
  | [], _, o, j, h1, h2, _ => by simp at h2; omega
  | v :: r, cs, o, j, h1, h2, h3 => by
    rw [setAll]
    by_cases e : j = o
    · subst e; rw [setAll_before r _ _ _ (by omega)]; simp [h3]
    · rw [setAll_in r _ _ _ (by omega) (by simp at h2; omega) (by simpa using h3), show j - o = (j - (o + 1)) + 1 by omega, List.getElem?_cons_succ]
theorem setAll_all (l : Array Value) (cs : Array Value) (h : cs.size = l.size) : setAll cs 0 l.toList = l := by
  apply Array.ext_getElem?
  intro j
  by_cases hj : j < l.size
  · rw [setAll_in _ _ _ _ (Nat.zero_le _) (by simpa using hj) (by omega)]; simp
  · rw [Array.getElem?_eq_none (by rw [setAll_size]; omega), Array.getElem?_eq_none (by omega)]
theorem Blk.setCells {b : Nat} {T : TypeId} : ∀ (vs : List Value) (o : Nat) (w : World) (cs : Array Value), Blk w b T cs → Blk (w.setCells b o vs) b T (setAll cs o vs)
  | [], _, _, _, h => h
  | v :: r, o, _, _, h => Blk.setCells r (o + 1) _ _ (h.set_ o v)
theorem Blk.setCells_far {g b : Nat} {T : TypeId} {cs : Array Value} (hn : g ≠ b) : ∀ (vs : List Value) (o : Nat) (w : World), Blk w g T cs → Blk (w.setCells b o vs) g T cs
  | [], _, _, h => h
  | v :: r, o, _, h => Blk.setCells_far hn r (o + 1) _ (h.far (p := ⟨b, o, none⟩) hn v)
theorem below_setCells {W : World} {B b : Nat} (hb : B ≤ b) : ∀ (vs : List Value) (o : Nat) (w : World), Below B W w → Below B W (w.setCells b o vs)
  | [], _, _, h => h
  | v :: r, o, _, h => below_setCells hb r (o + 1) _ (h.setCell (p := ⟨b, o, none⟩) hb v)
theorem Blk.there {w : World} {b : Nat} {T : TypeId} {cs : Array Value} (h : Blk w b T cs) : w.there b 0 cs.size := fun j hj => by
  rw [Nat.zero_add]
  exact ⟨by rw [h.cell]; simp [hj], h.frozen j⟩

def upd (f : Nat → Nat) (i b : Nat) : Nat → Nat := fun j => if j = i then b else f j
theorem upd_same (f : Nat → Nat) (i b : Nat) : upd f i b i = b := by simp [upd]
theorem upd_ne (f : Nat → Nat) {i j : Nat} (b : Nat) (h : j ≠ i) : upd f i b j = f j := by simp [upd, h]

structure TI (ops : Array Oper) (cls : Nat → Cls) (a0 : Act) (B : Nat) (W : World) (z0 : Nat → Array Value) (bs : Nat → Nat) (L : Array Bool) (a : Act) (w : World) : Prop where
  defers : a.defers = a0.defers
  size : a.tmps.size = a0.tmps.size
  out : ∀ t, (∀ (i : Nat) o, ops[i]? = some o → L.getD i false = true → o.dst ≠ some t) → a.tmps[t]? = a0.tmps[t]?
  inn : ∀ (i : Nat) o d, ops[i]? = some o → L.getD i false = true → o.dst = some d → a.tmps[d]? = some ((cls i).of (bs i))
  below : Below B W w
  old : ∀ i x b T ic l, cls i = .old x b T ic l → B ≤ b ∧ b < W.heap.size ∧ ∃ cs, Blk w b T cs ∧ cs.size = l.size ∧ (L.getD i false = true → cs = l) ∧ (L.getD i false = false → cs = z0 i)
  closed : ∀ (i : Nat) o, ops[i]? = some o → L.getD i false = true → ∀ e ∈ o.after, Region.binds .any e = true → L.getD e.on false = true
  new : ∀ i T n, cls i = .new T n → L.getD i false = true → W.heap.size ≤ bs i ∧ ∃ cs, Blk w (bs i) T cs ∧ cs.size = n
  apart : ∀ i j T n T' n', cls i = .new T n → cls j = .new T' n' → L.getD i false = true → L.getD j false = true → i ≠ j → bs i ≠ bs j
  put : ∀ i ia ic l, cls i = .put ia ic l → L.getD i false = true → ∃ T, cls ia = .new T l.size ∧ L.getD ia false = true ∧ Blk w (bs ia) T l

theorem getD_set_iff {L : Array Bool} {i j : Nat} (hi : i < L.size) : (L.setIfInBounds i true).getD j false = true ↔ j = i ∨ L.getD j false = true := by
  by_cases e : i = j
  · subst e; simp [hi]
  · rw [getD_set_ne false e]; exact ⟨.inr, fun h => h.resolve_left (Ne.symm e)⟩

section
variable {cls : Nat → Cls} {a0 : Act} {B : Nat} {W : World} {z0 : Nat → Array Value} {bs : Nat → Nat} {L : Array Bool} {a : Act} {w : World}
/-- The temporaries behind one operation more. -/
theorem TI.tmps {i : Nat} {o : Oper} (h : TI ops cls a0 B W z0 bs L a w) (hi : ops[i]? = some o) (hL : i < L.size) (hun : L.getD i false = false)
    (hdist : ∀ (i j : Nat) oi oj d, ops[i]? = some oi → ops[j]? = some oj → oi.dst = some d → oj.dst = some d → i = j) (hroom : ∀ (i : Nat) o d, ops[i]? = some o → o.dst = some d → d < a0.tmps.size)
    (v : Value) (bs' : Nat → Nat) (hbs : ∀ j, L.getD j false = true → (cls j).of (bs' j) = (cls j).of (bs j)) (hv : ∀ d, o.dst = some d → v = (cls i).of (bs' i)) :
    (a.put o.dst v).defers = a0.defers ∧ (a.put o.dst v).tmps.size = a0.tmps.size ∧
    (∀ t, (∀ (k : Nat) ok, ops[k]? = some ok → (L.setIfInBounds i true).getD k false = true → ok.dst ≠ some t) → (a.put o.dst v).tmps[t]? = a0.tmps[t]?) ∧
    (∀ (k : Nat) ok d, ops[k]? = some ok → (L.setIfInBounds i true).getD k false = true → ok.dst = some d → (a.put o.dst v).tmps[d]? = some ((cls k).of (bs' k))) := by
  refine ⟨?_, ?_, fun t ht => ?_, fun k ok d hk hLk hd => ?_⟩
  · cases hd : o.dst <;> simp [Act.put, h.defers]
  · cases hd : o.dst <;> simp [Act.put, h.size]
  · have h1 := ht i o hi ((getD_set_iff hL).2 (.inl rfl))
    have h2 := h.out t fun k ok hk hLk => ht k ok hk ((getD_set_iff hL).2 (.inr hLk))
    cases hd : o.dst with
    | none => exact h2
    | some d =>
      rw [← h2]
      simp only [Act.put]
      exact Array.getElem?_setIfInBounds_ne (fun e => h1 (by rw [hd, e]))
  · rcases (getD_set_iff hL).1 hLk with rfl | hLk2
    · rw [hi] at hk; injection hk with hk; subst hk
      rw [hd, ← hv d hd]
      have := hroom k o d hi hd
      simp [Act.put, h.size, this]
    · have hne : k ≠ i := fun e => by rw [e, hun] at hLk2; cases hLk2
      rw [hbs k hLk2, ← h.inn k ok d hk hLk2 hd]
      cases hdo : o.dst with
      | none => rfl
      | some d' =>
        simp only [Act.put]
        exact Array.getElem?_setIfInBounds_ne (fun e => hne (hdist k i ok o d hk hi hd (by rw [hdo, e])))

end
theorem pairs_mem {f : Nat → Option Value} {p : Nat × Value} (h : p ∈ pairs ops f) : ∃ (i : Nat) (o : Oper), ops[i]? = some o ∧ o.dst = some p.1 ∧ f i = some p.2 := by
  unfold pairs at h
  rw [List.mem_filterMap] at h
  obtain ⟨⟨o, i⟩, hm, he⟩ := h
  rw [List.mem_zipIdx_iff_getElem?] at hm
  simp only at he hm
  cases hd : o.dst with
  | none => simp [hd] at he
  | some d => cases hf : f i with
    | none => simp [hd, hf] at he
    | some v => simp [hd, hf] at he; subst he; exact ⟨i, o, by simpa using hm, hd, hf⟩
theorem pairs_has {f : Nat → Option Value} {i : Nat} {o : Oper} {d : Nat} {v : Value} (hi : ops[i]? = some o) (hd : o.dst = some d) (hf : f i = some v) : (d, v) ∈ pairs ops f := by
  unfold pairs
  rw [List.mem_filterMap]
  refine ⟨(o, i), ?_, by simp [hd, hf]⟩
  rw [List.mem_zipIdx_iff_getElem?]; simpa using hi
theorem nodup_map_fst {l : List (Oper × Nat)} (f : Nat → Option Value) (h : (l.filterMap fun x => x.1.dst).Nodup) :
    ((l.filterMap fun (o, i) => match o.dst, f i with
      | some d, some v => some (d, v)
      | _, _ => none).map (·.1)).Nodup := by
  induction l with
  | nil => simp
  | cons x l ih =>
    obtain ⟨o, i⟩ := x
    simp only [List.filterMap_cons] at h ⊢
    cases hd : o.dst with
    | none => simp [hd] at h ⊢; simpa using ih h
    | some d =>
      simp only [hd, List.nodup_cons] at h
      cases hf : f i with
      | none => simpa [hd, hf] using ih h.2
      | some v =>
        simp only [List.map_cons, List.nodup_cons]
        refine ⟨fun hm => h.1 ?_, ih h.2⟩
        rw [List.mem_map] at hm
        obtain ⟨⟨d', v'⟩, hm, rfl⟩ := hm
        rw [List.mem_filterMap] at hm ⊢
        obtain ⟨⟨o', i'⟩, hm, he⟩ := hm
        refine ⟨(o', i'), hm, ?_⟩
        cases hd' : o'.dst with
        | none => simp [hd'] at he
        | some d2 => cases hf' : f i' with
          | none => simp [hd', hf'] at he
          | some v2 => simp [hd', hf'] at he; simp [he.1]
theorem zipIdx_dsts : ∀ (l : List Oper) (k : Nat), (l.zipIdx k).filterMap (fun x => x.1.dst) = l.filterMap (·.dst)
  | [], _ => rfl
  | o :: l, k => by simp [List.zipIdx_cons, List.filterMap_cons, zipIdx_dsts l (k + 1)]
theorem pairs_nodup (f : Nat → Option Value) (h : (ops.toList.filterMap (·.dst)).Nodup) : ((pairs ops f).map (·.1)).Nodup :=
  nodup_map_fst f (by rw [zipIdx_dsts]; exact h)
theorem dst_inj (h : (ops.toList.filterMap (·.dst)).Nodup) : ∀ (i j : Nat) oi oj d, ops[i]? = some oi → ops[j]? = some oj → oi.dst = some d → oj.dst = some d → i = j := by
  obtain ⟨l⟩ := ops
  simp only at h
  induction l with
  | nil => intro i j oi oj d hi; simp at hi
  | cons o l ih =>
    intro i j oi oj d hi hj hdi hdj
    have hmem : ∀ (k : Nat) ok, l[k]? = some ok → ok.dst = some d → d ∈ l.filterMap (·.dst) := fun k ok hk hd => by
      rw [List.mem_filterMap]; exact ⟨ok, List.mem_of_getElem? hk, hd⟩
    have hrest : (l.filterMap (·.dst)).Nodup := by
      simp only [List.filterMap_cons] at h
      cases hd : o.dst with
      | none => simpa [hd] using h
      | some d => simp only [hd, List.nodup_cons] at h; exact h.2
    have hhead : o.dst = some d → d ∉ l.filterMap (·.dst) := fun hd => by
      simp only [List.filterMap_cons, hd, List.nodup_cons] at h; exact h.1
    cases i with
    | zero =>
      cases j with
      | zero => rfl
      | succ j =>
        simp at hi hj; subst hi
        exact absurd (hmem j oj hj hdj) (hhead hdi)
    | succ i =>
      cases j with
      | zero =>
        simp at hi hj; subst hj
        exact absurd (hmem i oi hi hdi) (hhead hdj)
      | succ j =>
        simp at hi hj
        exact congrArg Nat.succ (ih hrest i j oi oj d (by simpa using hi) (by simpa using hj) hdi hdj)

/-- THE LAW. -/
theorem wp_region_tuple {id : Nat} {a0 : Act} {w0 : World} (cls : Nat → Cls) (B : Nat) (W : World) (z0 : Nat → Array Value) (hm : P.follows .mixedOrders = true) (hB : B ≤ W.heap.size) (hW : Below B W w0)
    (hback : (ops.toList.zipIdx.all fun (o, i) => o.after.all fun e => decide (e.on < i)) = true) (hguard : (ops.all fun o => o.guard.isNone) = true)
    (hdst : (ops.toList.filterMap (·.dst)).Nodup) (hroom : (ops.toList.filterMap (·.dst)).all (fun d => decide (d < a0.tmps.size)) = true) (hreads : readsOk ops cls = true)
    (hval : ∀ (i : Nat) o v, ops[i]? = some o → cls i = .val v → ∀ w, Below B W w → (∀ (j : Nat) oj x b T ic l, ops[j]? = some oj → cls j = .old x b T ic l → (∃ e ∈ oj.after, Region.binds .any e = true ∧ e.on = i) → Blk w b T (z0 j)) → o.wp P ⟨fill a0.tmps (pairs ops (isVal cls)), a0.defers⟩ w (fun a' w' => a' = Act.put ⟨fill a0.tmps (pairs ops (isVal cls)), a0.defers⟩ o.dst v ∧ Below w.heap.size w w') (fun _ _ _ => False))
    (hnew : ∀ (i : Nat) o T n, ops[i]? = some o → cls i = .new T n → ∃ z : Array Value, z.size = n ∧ ∀ (ρ : Operand → Value) (w : World), (execOp ρ o).run P w = .ok (.value (.pointer (some ⟨w.heap.size, 0, none⟩))) (w.alloc (.cells z T)))
    (hput : ∀ (i : Nat) o ia ic l, ops[i]? = some o → cls i = .put ia ic l → ∃ T x y oa oc, o.op = .store T (.tmp x) (.tmp y) ∧ o.dst = none ∧ ops[ia]? = some oa ∧ oa.dst = some x ∧ ops[ic]? = some oc ∧ oc.dst = some y ∧ cls ia = .new T l.size ∧ cls ic = .val (.agg l) ∧
      (∃ e ∈ o.after, Region.binds .any e = true ∧ e.on = ia) ∧ (∃ e ∈ o.after, Region.binds .any e = true ∧ e.on = ic) ∧ (P.info? T).map (·.size) = some l.size ∧ l.all (·.oneCell') = true)
    (hputs : ∀ i j ia ic l ja jc m, cls i = .put ia ic l → cls j = .put ja jc m → i ≠ j → ia ≠ ja)
    (hold : ∀ (i : Nat) o x b T ic l, ops[i]? = some o → cls i = .old x b T ic l → B ≤ b ∧ b < W.heap.size ∧ Blk w0 b T (z0 i) ∧ (z0 i).size = l.size ∧ ∃ y oc, o.op = .store T (.tmp x) (.tmp y) ∧ o.dst = none ∧ ops[ic]? = some oc ∧ oc.dst = some y ∧ cls ic = .val (.agg l) ∧
      (∀ (k : Nat) ok, ops[k]? = some ok → ok.dst ≠ some x) ∧ a0.tmps[x]? = some (.pointer (some ⟨b, 0, none⟩)) ∧ (∃ e ∈ o.after, Region.binds .any e = true ∧ e.on = ic) ∧ (P.info? T).map (·.size) = some l.size ∧ l.all (·.oneCell') = true)
    (holdin : ∀ i x b T ic l, cls i = .old x b T ic l → i < ops.size)
    (holds : ∀ i j x b T ic l x' b' T' ic' l', cls i = .old x b T ic l → cls j = .old x' b' T' ic' l' → i ≠ j → b ≠ b')
    (hend : ∀ (bs : Nat → Nat) (w : World), Below B W w → (∀ i j T n T' n', i < ops.size → j < ops.size → cls i = .new T n → cls j = .new T' n' → i ≠ j → bs i ≠ bs j) → (∀ i T n, i < ops.size → cls i = .new T n → W.heap.size ≤ bs i) →
      (∀ i ia ic l, i < ops.size → cls i = .put ia ic l → ∃ T, cls ia = .new T l.size ∧ Blk w (bs ia) T l) → (∀ i x b T ic l, i < ops.size → cls i = .old x b T ic l → Blk w b T l) → Q .normal ⟨fill a0.tmps (pairs ops fun i => some ((cls i).of (bs i))), a0.defers⟩ w) :
    (Code.region id ops true).wp P Q a0 w0 := by
  have hdist := dst_inj hdst
  have hroom' : ∀ (i : Nat) o d, ops[i]? = some o → o.dst = some d → d < a0.tmps.size := fun i o d hi hd =>
    of_decide_eq_true (List.all_eq_true.1 hroom d (by rw [List.mem_filterMap]; exact ⟨o, Array.mem_toList_iff.2 (Array.mem_of_getElem? hi), hd⟩))
  refine wp_region_any hm (wpAny_inv (fun L a w => ∃ bs, TI ops cls a0 B W z0 bs L a w) hback hguard ?_ ?_ _ _ _ _ (by simp) ?_ ?_)
  · rintro L a w ⟨bs, h⟩ i o hi hs hun hp
    have hlt : i < ops.size := (Array.getElem?_eq_some_iff.1 hi).1
    have hL : i < L.size := by omega
    have hun' : L.getD i false = false := by simp [hL] at hun ⊢; exact hun
    have hclosed : ∀ (j : Nat) oj, ops[j]? = some oj → (L.setIfInBounds i true).getD j false = true → ∀ e ∈ oj.after, Region.binds .any e = true → (L.setIfInBounds i true).getD e.on false = true := fun j oj hj hLj e he hb => by
      rcases (getD_set_iff hL).1 hLj with rfl | hLj
      · rw [hi] at hj; injection hj with hj; subst hj
        exact (getD_set_iff hL).2 (.inr (hp e he hb))
      · exact (getD_set_iff hL).2 (.inr (h.closed j oj hj hLj e he hb))
    have hkeep : ∀ j, j ≠ i → (L.setIfInBounds i true).getD j false = L.getD j false := fun j hj => getD_set_ne false (Ne.symm hj)
    cases hc : cls i with
    | val v =>
      have hro : o.dst.isSome = true ∧ (∀ cs b, o.op ≠ .select cs b) ∧ ∀ x ∈ o.op.operands, a.eval x = Act.eval ⟨fill a0.tmps (pairs ops (isVal cls)), a0.defers⟩ x := by
        have h1 := List.all_eq_true.1 hreads (o, i) (by rw [List.mem_zipIdx_iff_getElem?]; simpa using hi)
        simp only [hc, Bool.and_eq_true] at h1
        obtain ⟨⟨hsel, hsome⟩, hops⟩ := h1
        refine ⟨hsome, fun cs b e => by rw [e] at hsel; simp at hsel, fun x hx => ?_⟩
        rw [Array.all_eq_true_iff_forall_mem] at hops
        have h2 := hops x hx
        cases x with
        | tmp t =>
          simp only [Bool.or_eq_true] at h2
          rcases h2 with h2 | h2
          · rw [Array.all_eq_true_iff_forall_mem] at h2
            have hno : ∀ (k : Nat) ok, ops[k]? = some ok → ok.dst ≠ some t := fun k ok hk e => by
              have := h2 ok (Array.mem_of_getElem? hk)
              simp [e] at this
            have e1 := h.out t fun k ok hk _ => hno k ok hk
            have e2 := fill_other (pairs ops (isVal cls)) t a0.tmps fun p hp e => by
              obtain ⟨k, ok, hk, hd, _⟩ := pairs_mem hp
              exact hno k ok hk (by rw [hd, e])
            simp [Act.eval, Array.getD_eq_getD_getElem?, e1, e2]
          · rw [← Array.any_toList, List.any_eq_true] at h2
            obtain ⟨e, he, h3⟩ := h2
            rw [Array.mem_toList_iff] at he
            simp only [Bool.and_eq_true, beq_iff_eq] at h3
            obtain ⟨hb, hv, hd⟩ := h3
            obtain ⟨u, hu⟩ := Option.isSome_iff_exists.1 hv
            cases hoe : ops[e.on]? with
            | none => simp [hoe] at hd
            | some oe =>
              simp only [hoe, Option.bind_some] at hd
              have e1 := h.inn e.on oe t hoe (hp e he hb) hd
              have hce : cls e.on = .val u := by
                unfold isVal at hu
                cases hcc : cls e.on <;> simp [hcc] at hu
                rw [hu]
              rw [hce] at e1
              have e2 := fill_at (pairs ops (isVal cls)) (pairs_nodup _ hdst) t u a0.tmps (hroom' _ _ _ hoe hd) (pairs_has hoe hd hu)
              simp only [Cls.of] at e1
              simp [Act.eval, Array.getD_eq_getD_getElem?, e1, e2]
        | _ => rfl
      obtain ⟨hsome, hsel, hev⟩ := hro
      obtain ⟨d, hd⟩ := Option.isSome_iff_exists.1 hsome
      have h1 := hval i o v hi hc w h.below (fun j oj x b T ic l hj hcj hw => by
        obtain ⟨_, _, cs, q3, _, _, q6⟩ := h.old j x b T ic l hcj
        have hf : L.getD j false = false := by
          cases hb : L.getD j false with
          | false => rfl
          | true =>
            obtain ⟨e, he, hbe, rfl⟩ := hw
            have := h.closed j oj hj hb e he hbe
            rw [hun'] at this; cases this
        rw [← q6 hf]; exact q3)
      unfold Oper.wp at h1
      rw [← execOp_congr o hsel hev] at h1
      have h2 := upon_swap (a2 := a) (Q := Q) hd (by simp only [fill_size]; exact hroom' i o d hi hd) h1
      refine Oper.wp_mono ?_ h2
      rintro a' w' ⟨rfl, hb⟩
      obtain ⟨t1, t2, t3, t4⟩ := h.tmps hi hL hun' hdist hroom' v bs (fun _ _ => rfl) (fun _ _ => by rw [hc]; rfl)
      refine ⟨bs, t1, t2, t3, t4, h.below.trans (hb.mono (Nat.le_trans hB h.below.size)), ?_, hclosed, ?_, ?_, ?_⟩
      · intro j x b T ic l hj
        obtain ⟨q1, q2, cs, q3, q4, q5, q6⟩ := h.old j x b T ic l hj
        have hji : j ≠ i := fun e => by rw [e, hc] at hj; cases hj
        refine ⟨q1, q2, cs, q3.below hb q3.lt, q4, fun hLj => q5 ?_, fun hLj => q6 ?_⟩
        · rw [← hkeep j hji]; exact hLj
        · rw [← hkeep j hji]; exact hLj
      · intro j T n hj hLj'
        rcases (getD_set_iff hL).1 hLj' with rfl | hLj
        · rw [hc] at hj; cases hj
        · obtain ⟨q1, cs, q2, q3⟩ := h.new j T n hj hLj
          exact ⟨q1, cs, q2.below hb q2.lt, q3⟩
      · intro j k T n T' n' hj hk hLj' hLk' hne
        rcases (getD_set_iff hL).1 hLj' with rfl | hLj
        · rw [hc] at hj; cases hj
        · rcases (getD_set_iff hL).1 hLk' with rfl | hLk
          · rw [hc] at hk; cases hk
          · exact h.apart j k T n T' n' hj hk hLj hLk hne
      · intro j ia ic l hj hLj'
        rcases (getD_set_iff hL).1 hLj' with rfl | hLj
        · rw [hc] at hj; cases hj
        · obtain ⟨T, q1, q2, q3⟩ := h.put j ia ic l hj hLj
          exact ⟨T, q1, (getD_set_iff hL).2 (.inr q2), q3.below hb q3.lt⟩
    | new T n =>
      obtain ⟨z, hz, hrun⟩ := hnew i o T n hi hc
      unfold Oper.wp
      rw [hrun, Oper.upon_value]
      have hfar : ∀ j T n, cls j = .new T n → L.getD j false = true → bs j < w.heap.size := fun j T n hj hLj => by
        obtain ⟨_, cs, q2, _⟩ := h.new j T n hj hLj
        exact q2.lt
      have hne : ∀ j, L.getD j false = true → j ≠ i := fun j hj e => by rw [e, hun'] at hj; cases hj
      obtain ⟨t1, t2, t3, t4⟩ := h.tmps hi hL hun' hdist hroom' (.pointer (some ⟨w.heap.size, 0, none⟩)) (upd bs i w.heap.size) (fun j hj => by rw [upd_ne _ _ (hne j hj)]) (fun _ _ => by rw [hc, upd_same]; rfl)
      refine ⟨upd bs i w.heap.size, t1, t2, t3, t4, h.below.alloc (Nat.le_trans hB h.below.size) _, ?_, hclosed, ?_, ?_, ?_⟩
      · intro j x b T ic l hj
        obtain ⟨q1, q2, cs, q3, q4, q5, q6⟩ := h.old j x b T ic l hj
        have hji : j ≠ i := fun e => by rw [e, hc] at hj; cases hj
        refine ⟨q1, q2, cs, q3.alloc _, q4, fun hLj => q5 ?_, fun hLj => q6 ?_⟩
        · rw [← hkeep j hji]; exact hLj
        · rw [← hkeep j hji]; exact hLj
      · intro j T' n' hj hLj'
        rcases (getD_set_iff hL).1 hLj' with rfl | hLj
        · rw [hc] at hj; injection hj with e1 e2; subst e1 e2
          rw [upd_same]
          exact ⟨h.below.size, z, Blk.new w _ z, hz⟩
        · rw [upd_ne _ _ (hne j hLj)]
          obtain ⟨q1, cs, q2, q3⟩ := h.new j T' n' hj hLj
          exact ⟨q1, cs, q2.alloc _, q3⟩
      · intro j k T1 n1 T2 n2 hj hk hLj' hLk' hjk
        rcases (getD_set_iff hL).1 hLj' with rfl | hLj
        · rcases (getD_set_iff hL).1 hLk' with rfl | hLk
          · exact absurd rfl hjk
          · rw [upd_same, upd_ne _ _ (hne k hLk)]
            have := hfar k _ _ hk hLk
            omega
        · rcases (getD_set_iff hL).1 hLk' with rfl | hLk
          · rw [upd_same, upd_ne _ _ (hne j hLj)]
            have := hfar j _ _ hj hLj
            omega
          · rw [upd_ne _ _ (hne j hLj), upd_ne _ _ (hne k hLk)]
            exact h.apart j k _ _ _ _ hj hk hLj hLk hjk
      · intro j ia ic l hj hLj'
        rcases (getD_set_iff hL).1 hLj' with rfl | hLj
        · rw [hc] at hj; cases hj
        · obtain ⟨T', q1, q2, q3⟩ := h.put j ia ic l hj hLj
          rw [upd_ne _ _ (hne ia q2)]
          exact ⟨T', q1, (getD_set_iff hL).2 (.inr q2), q3.alloc _⟩
    | put ia ic l =>
      obtain ⟨T, x, y, oa, oc, hop, hdo, hoa, hda, hoc, hdc, hca, hcc, ⟨e1, he1, hb1, rfl⟩, ⟨e2, he2, hb2, rfl⟩, hinfo, hone⟩ := hput i o ia ic l hi hc
      have hLa := hp e1 he1 hb1
      have hLc := hp e2 he2 hb2
      obtain ⟨q1, cs, q2, q3⟩ := h.new _ _ _ hca hLa
      have va := h.inn _ _ _ hoa hLa hda
      have vc := h.inn _ _ _ hoc hLc hdc
      rw [hca] at va
      rw [hcc] at vc
      simp only [Cls.of] at va vc
      have ht := q2.there
      rw [q3] at ht
      refine wp_store_mid T (.tmp x) (.tmp y) hop (bs e1.on) 0 l (by simp [Act.eval, Array.getD_eq_getD_getElem?, va]) (by simp [Act.eval, Array.getD_eq_getD_getElem?, vc]) ht hinfo hone ?_
      obtain ⟨t1, t2, t3, t4⟩ := h.tmps hi hL hun' hdist hroom' undef bs (fun _ _ => rfl) (fun d hd => by rw [hdo] at hd; cases hd)
      refine ⟨bs, t1, t2, t3, t4, below_setCells (Nat.le_trans hB q1) _ _ _ h.below, ?_, hclosed, ?_, ?_, ?_⟩
      · intro j x b T ic l hj
        obtain ⟨r1, r2, cs', r3, r4, r5, r6⟩ := h.old j x b T ic l hj
        have hji : j ≠ i := fun e => by rw [e, hc] at hj; cases hj
        refine ⟨r1, r2, cs', r3.setCells_far (by omega) _ _ _, r4, fun hLj => r5 ?_, fun hLj => r6 ?_⟩
        · rw [← hkeep j hji]; exact hLj
        · rw [← hkeep j hji]; exact hLj
      · intro j T' n' hj hLj'
        rcases (getD_set_iff hL).1 hLj' with rfl | hLj
        · rw [hc] at hj; cases hj
        · obtain ⟨r1, cs', r2, r3⟩ := h.new j T' n' hj hLj
          by_cases e : j = e1.on
          · subst e
            rw [hca] at hj; injection hj with f1 f2; subst f1 f2
            exact ⟨r1, _, r2.setCells _ _ _ _, by rw [setAll_size, r3]⟩
          · exact ⟨r1, cs', r2.setCells_far (h.apart j e1.on _ _ _ _ hj hca hLj hLa e) _ _ _, r3⟩
      · intro j k T1 n1 T2 n2 hj hk hLj' hLk' hjk
        rcases (getD_set_iff hL).1 hLj' with rfl | hLj
        · rw [hc] at hj; cases hj
        · rcases (getD_set_iff hL).1 hLk' with rfl | hLk
          · rw [hc] at hk; cases hk
          · exact h.apart j k _ _ _ _ hj hk hLj hLk hjk
      · intro j ja jc m hj hLj'
        rcases (getD_set_iff hL).1 hLj' with rfl | hLj
        · rw [hc] at hj; injection hj with f1 f2 f3; subst f1 f2 f3
          refine ⟨T, hca, (getD_set_iff hL).2 (.inr hLa), ?_⟩
          have := q2.setCells l.toList 0
          rwa [setAll_all l cs q3] at this
        · obtain ⟨T', r1, r2, r3⟩ := h.put j ja jc m hj hLj
          have hne : e1.on ≠ ja := hputs i j _ _ _ _ _ _ hc hj (fun e => by rw [← e, hun'] at hLj; cases hLj)
          exact ⟨T', r1, (getD_set_iff hL).2 (.inr r2), r3.setCells_far (h.apart ja e1.on _ _ _ _ r1 hca r2 hLa (Ne.symm hne)) _ _ _⟩
    | old x b T ic l =>
      obtain ⟨hb1, hb2, _, _, y, oc, hop, hdo, hoc, hdc, hcc, hxno, hx0, ⟨e2, he2, hbe2, rfl⟩, hinfo, hone⟩ := hold i o x b T ic l hi hc
      have hLc := hp e2 he2 hbe2
      obtain ⟨_, _, cs, q2, q3, _, _⟩ := h.old i x b T _ l hc
      have va := h.out x fun k ok hk _ => hxno k ok hk
      rw [hx0] at va
      have vc := h.inn _ _ _ hoc hLc hdc
      rw [hcc] at vc
      simp only [Cls.of] at vc
      have ht := q2.there
      rw [q3] at ht
      refine wp_store_mid T (.tmp x) (.tmp y) hop b 0 l (by simp [Act.eval, Array.getD_eq_getD_getElem?, va]) (by simp [Act.eval, Array.getD_eq_getD_getElem?, vc]) ht hinfo hone ?_
      obtain ⟨t1, t2, t3, t4⟩ := h.tmps hi hL hun' hdist hroom' undef bs (fun _ _ => rfl) (fun d hd => by rw [hdo] at hd; cases hd)
      refine ⟨bs, t1, t2, t3, t4, below_setCells hb1 _ _ _ h.below, ?_, hclosed, ?_, ?_, ?_⟩
      · intro j x' b' T' ic' l' hj
        obtain ⟨r1, r2, cs', r3, r4, r5, r6⟩ := h.old j x' b' T' ic' l' hj
        by_cases e : i = j
        · subst e
          rw [hc] at hj; injection hj with f1 f2 f3 f4 f5; subst f2 f3 f5
          exact ⟨r1, r2, _, q2.setCells _ _ _ _, by rw [setAll_size, q3], fun _ => setAll_all l cs q3, fun hLj => by rw [(getD_set_iff hL).2 (.inl rfl)] at hLj; cases hLj⟩
        · refine ⟨r1, r2, cs', r3.setCells_far (Ne.symm (holds i j _ _ _ _ _ _ _ _ _ _ hc hj e)) _ _ _, r4, fun hLj => ?_, fun hLj => ?_⟩
          · exact r5 (((getD_set_iff hL).1 hLj).resolve_left (Ne.symm e))
          · rw [hkeep j (Ne.symm e)] at hLj; exact r6 hLj
      · intro j T' n' hj hLj'
        rcases (getD_set_iff hL).1 hLj' with rfl | hLj
        · rw [hc] at hj; cases hj
        · obtain ⟨r1, cs', r2, r3⟩ := h.new j T' n' hj hLj
          exact ⟨r1, cs', r2.setCells_far (by omega) _ _ _, r3⟩
      · intro j k T1 n1 T2 n2 hj hk hLj' hLk' hjk
        rcases (getD_set_iff hL).1 hLj' with rfl | hLj
        · rw [hc] at hj; cases hj
        · rcases (getD_set_iff hL).1 hLk' with rfl | hLk
          · rw [hc] at hk; cases hk
          · exact h.apart j k _ _ _ _ hj hk hLj hLk hjk
      · intro j ja jc m hj hLj'
        rcases (getD_set_iff hL).1 hLj' with rfl | hLj
        · rw [hc] at hj; cases hj
        · obtain ⟨T', r1, r2, r3⟩ := h.put j ja jc m hj hLj
          have r4 := (h.new ja _ _ r1 r2).1
          exact ⟨T', r1, (getD_set_iff hL).2 (.inr r2), r3.setCells_far (by omega) _ _ _⟩
  · rintro L a w ⟨bs, h⟩ hall
    have ea : a = ⟨fill a0.tmps (pairs ops fun i => some ((cls i).of (bs i))), a0.defers⟩ := by
      have h1 := fill_unique (pairs ops fun i => some ((cls i).of (bs i))) (pairs_nodup _ hdst) a0.tmps a.tmps h.size
        (fun d hd => h.out d fun k ok hk _ e => hd _ (pairs_has hk e rfl) rfl)
        (fun p hp _ => by
          obtain ⟨k, ok, hk, hd, hf⟩ := pairs_mem hp
          injection hf with hf
          rw [← hf]
          exact h.inn k ok p.1 hk (hall k (Array.getElem?_eq_some_iff.1 hk).1) hd)
      have h2 := h.defers
      obtain ⟨at', ad⟩ := a
      simp only at h1 h2
      rw [h1, h2]
    rw [ea]
    refine hend bs w h.below (fun i j T n T' n' hi hj hci hcj hne => h.apart i j T n T' n' hci hcj (hall i hi) (hall j hj) hne) (fun i T n hi hci => (h.new i T n hci (hall i hi)).1) (fun i ia ic l hi hci => ?_) (fun i x b T ic l hi hci => ?_)
    · obtain ⟨T, q1, _, q3⟩ := h.put i ia ic l hci (hall i hi)
      exact ⟨T, q1, q3⟩
    · obtain ⟨_, _, cs, q3, _, q5, _⟩ := h.old i x b T ic l hci
      rw [q5 (hall i hi)] at q3
      exact q3
  · have : (List.filter (fun i => !(Array.replicate ops.size false).getD i false) (List.range ops.size)).length ≤ (List.range ops.size).length := List.length_filter_le _ _
    unfold unlisted
    simpa using this
  · refine ⟨fun _ => 0, rfl, rfl, fun _ _ => rfl, ?_, hW.drew, ?_, ?_, ?_, ?_, ?_⟩
    · intro i o d hi hL; simp at hL; rcases Nat.lt_or_ge i ops.size with h | h <;> simp [h] at hL
    · intro i x b T ic l hi
      have hlt := holdin i x b T ic l hi
      obtain ⟨q1, q2, q3, q4, _⟩ := hold i ops[i] x b T ic l (Array.getElem?_eq_getElem hlt) hi
      exact ⟨q1, q2, _, q3.drew, q4, fun hL => by simp [hlt] at hL, fun _ => rfl⟩
    · intro i o _ hL; simp at hL; rcases Nat.lt_or_ge i ops.size with h | h <;> simp [h] at hL
    · intro i T n _ hL; rcases Nat.lt_or_ge i ops.size with h | h <;> simp [h] at hL
    · intro i j T n T' n' _ _ hL; rcases Nat.lt_or_ge i ops.size with h | h <;> simp [h] at hL
    · intro i ia ic l _ hL; rcases Nat.lt_or_ge i ops.size with h | h <;> simp [h] at hL

/-! The same by lists, for a region that is written out. -/
def clsOf (cl : List Cls) (i : Nat) : Cls := (cl[i]?).getD (.put 0 0 #[])
def ValOk (P : Program) (af : Act) (B : Nat) (W : World) (S : World → Prop) : List Oper → List Cls → Prop
  | o :: os, .val v :: cs => (∀ w, Below B W w → S w → o.wp P af w (fun a' w' => a' = af.put o.dst v ∧ Below w.heap.size w w') (fun _ _ _ => False)) ∧ ValOk P af B W S os cs
  | _ :: os, _ :: cs => ValOk P af B W S os cs
  | _, _ => True
def NewOk (P : Program) : List Oper → List Cls → Prop
  | o :: os, .new T n :: cs => (∃ z : Array Value, z.size = n ∧ ∀ (ρ : Operand → Value) (w : World), (execOp ρ o).run P w = .ok (.value (.pointer (some ⟨w.heap.size, 0, none⟩))) (w.alloc (.cells z T))) ∧ NewOk P os cs
  | _ :: os, _ :: cs => NewOk P os cs
  | _, _ => True
def PutOk (P : Program) (ops : Array Oper) (cl : List Cls) : List Oper → List Cls → Prop
  | o :: os, .put ia ic l :: cs => (∃ T x y, o.op = .store T (.tmp x) (.tmp y) ∧ o.dst = none ∧ (ops[ia]?).bind (·.dst) = some x ∧ (ops[ic]?).bind (·.dst) = some y ∧ cl[ia]? = some (.new T l.size) ∧ cl[ic]? = some (.val (.agg l)) ∧
      (o.after.any fun e => Region.binds .any e && e.on == ia) = true ∧ (o.after.any fun e => Region.binds .any e && e.on == ic) = true ∧ (P.info? T).map (·.size) = some l.size ∧ l.all (·.oneCell') = true) ∧ PutOk P ops cl os cs
  | _ :: os, _ :: cs => PutOk P ops cl os cs
  | _, _ => True
def OldOk (P : Program) (ops : Array Oper) (cl : List Cls) (t0 : Array Value) (B : Nat) (W w0 : World) (z : Array Value) : List Oper → List Cls → Prop
  | o :: os, .old x b T ic l :: cs => (B ≤ b ∧ b < W.heap.size ∧ Blk w0 b T z ∧ z.size = l.size ∧ ∃ y, o.op = .store T (.tmp x) (.tmp y) ∧ o.dst = none ∧ (ops[ic]?).bind (·.dst) = some y ∧ cl[ic]? = some (.val (.agg l)) ∧
      (ops.all fun ok => ok.dst != some x) = true ∧ t0[x]? = some (.pointer (some ⟨b, 0, none⟩)) ∧ (o.after.any fun e => Region.binds .any e && e.on == ic) = true ∧ (P.info? T).map (·.size) = some l.size ∧ l.all (·.oneCell') = true) ∧ OldOk P ops cl t0 B W w0 z os cs
  | _ :: os, _ :: cs => OldOk P ops cl t0 B W w0 z os cs
  | _, _ => True
def putsOf : List Cls → List Nat
  | .put ia _ _ :: cs => ia :: putsOf cs
  | _ :: cs => putsOf cs
  | [] => []
def oldsOf : List Cls → Nat
  | .old _ _ _ _ _ :: cs => oldsOf cs + 1
  | _ :: cs => oldsOf cs
  | [] => 0
/-- A store into an elder variable waits for all values. -/
def waitsB (ops : Array Oper) (cl : List Cls) : Bool := (List.range ops.size).all fun j => match clsOf cl j with
  | .old _ _ _ _ _ => (List.range ops.size).all fun i => match clsOf cl i with
    | .val _ => ((ops[j]?).map fun o => o.after.any fun e => Region.binds .any e && e.on == i).getD false
    | _ => true
  | _ => true
def nodupB : List Nat → Bool
  | [] => true
  | x :: l => !l.contains x && nodupB l
theorem nodupB_spec : ∀ {l : List Nat}, nodupB l = true → l.Nodup
  | [], _ => List.nodup_nil
  | x :: l, h => by
    simp only [nodupB, Bool.and_eq_true, Bool.not_eq_true', List.contains_eq_mem, decide_eq_false_iff_not] at h
    exact List.nodup_cons.2 ⟨h.1, nodupB_spec h.2⟩
theorem any_edge {o : Oper} {k : Nat} (h : (o.after.any fun e => Region.binds .any e && e.on == k) = true) : ∃ e ∈ o.after, Region.binds .any e = true ∧ e.on = k := by
  rw [← Array.any_toList, List.any_eq_true] at h
  obtain ⟨e, he, h3⟩ := h
  rw [Array.mem_toList_iff] at he
  simp only [Bool.and_eq_true, beq_iff_eq] at h3
  exact ⟨e, he, h3.1, h3.2⟩
theorem bind_dst {k x : Nat} (h : (ops[k]?).bind (·.dst) = some x) : ∃ o, ops[k]? = some o ∧ o.dst = some x := by
  cases ho : ops[k]? with
  | none => simp [ho] at h
  | some o => simp [ho] at h; exact ⟨o, rfl, h⟩
theorem filterMap_same {α β : Type} {f g : α → Option β} : ∀ (l : List α), (∀ x ∈ l, f x = g x) → l.filterMap f = l.filterMap g
  | [], _ => rfl
  | x :: l, h => by rw [List.filterMap_cons, List.filterMap_cons, h x (by simp), filterMap_same l fun y hy => h y (by simp [hy])]
theorem clsOf_at {cl : List Cls} {i : Nat} {c : Cls} (h : cl[i]? = some c) : clsOf cl i = c := by simp [clsOf, h]
theorem ValOk.get {af : Act} {B : Nat} {W : World} {S : World → Prop} {v : Value} {o : Oper} : ∀ (os : List Oper) (cs : List Cls), ValOk P af B W S os cs → ∀ i : Nat, os[i]? = some o → cs[i]? = some (.val v) → ∀ w, Below B W w → S w → o.wp P af w (fun a' w' => a' = af.put o.dst v ∧ Below w.heap.size w w') (fun _ _ _ => False)
  | [], _, _, i, h1, _ => by simp at h1
  | _ :: _, [], _, i, _, h2 => by simp at h2
  | o' :: os, c :: cs, h, 0, h1, h2 => by
    simp at h1 h2; subst h1 h2
    exact h.1
  | o' :: os, c :: cs, h, i + 1, h1, h2 => by
    have h' : ValOk P af B W S os cs := by cases c <;> first | exact h.2 | exact h
    exact ValOk.get os cs h' i (by simpa using h1) (by simpa using h2)
theorem NewOk.get {T : TypeId} {n : Nat} {o : Oper} : ∀ (os : List Oper) (cs : List Cls), NewOk P os cs → ∀ i : Nat, os[i]? = some o → cs[i]? = some (.new T n) → ∃ z : Array Value, z.size = n ∧ ∀ (ρ : Operand → Value) (w : World), (execOp ρ o).run P w = .ok (.value (.pointer (some ⟨w.heap.size, 0, none⟩))) (w.alloc (.cells z T))
  | [], _, _, i, h1, _ => by simp at h1
  | _ :: _, [], _, i, _, h2 => by simp at h2
  | o' :: os, c :: cs, h, 0, h1, h2 => by
    simp at h1 h2; subst h1 h2
    exact h.1
  | o' :: os, c :: cs, h, i + 1, h1, h2 => by
    have h' : NewOk P os cs := by cases c <;> first | exact h.2 | exact h
    exact NewOk.get os cs h' i (by simpa using h1) (by simpa using h2)
theorem PutOk.get {cl : List Cls} {ia ic : Nat} {l : Array Value} {o : Oper} : ∀ (os : List Oper) (cs : List Cls), PutOk P ops cl os cs → ∀ i : Nat, os[i]? = some o → cs[i]? = some (.put ia ic l) →
    ∃ T x y, o.op = .store T (.tmp x) (.tmp y) ∧ o.dst = none ∧ (ops[ia]?).bind (·.dst) = some x ∧ (ops[ic]?).bind (·.dst) = some y ∧ cl[ia]? = some (.new T l.size) ∧ cl[ic]? = some (.val (.agg l)) ∧
      (o.after.any fun e => Region.binds .any e && e.on == ia) = true ∧ (o.after.any fun e => Region.binds .any e && e.on == ic) = true ∧ (P.info? T).map (·.size) = some l.size ∧ l.all (·.oneCell') = true
  | [], _, _, i, h1, _ => by simp at h1
  | _ :: _, [], _, i, _, h2 => by simp at h2
  | o' :: os, c :: cs, h, 0, h1, h2 => by
    simp at h1 h2; subst h1 h2
    exact h.1
  | o' :: os, c :: cs, h, i + 1, h1, h2 => by
    have h' : PutOk P ops cl os cs := by cases c <;> first | exact h.2 | exact h
    exact PutOk.get os cs h' i (by simpa using h1) (by simpa using h2)
theorem OldOk.get {cl : List Cls} {t0 : Array Value} {B : Nat} {W w0 : World} {z : Array Value} {x b : Nat} {T : TypeId} {ic : Nat} {l : Array Value} {o : Oper} : ∀ (os : List Oper) (cs : List Cls), OldOk P ops cl t0 B W w0 z os cs → ∀ i : Nat, os[i]? = some o → cs[i]? = some (.old x b T ic l) →
    B ≤ b ∧ b < W.heap.size ∧ Blk w0 b T z ∧ z.size = l.size ∧ ∃ y, o.op = .store T (.tmp x) (.tmp y) ∧ o.dst = none ∧ (ops[ic]?).bind (·.dst) = some y ∧ cl[ic]? = some (.val (.agg l)) ∧
      (ops.all fun ok => ok.dst != some x) = true ∧ t0[x]? = some (.pointer (some ⟨b, 0, none⟩)) ∧ (o.after.any fun e => Region.binds .any e && e.on == ic) = true ∧ (P.info? T).map (·.size) = some l.size ∧ l.all (·.oneCell') = true
  | [], _, _, i, h1, _ => by simp at h1
  | _ :: _, [], _, i, _, h2 => by simp at h2
  | o' :: os, c :: cs, h, 0, h1, h2 => by
    simp at h1 h2; subst h1 h2
    exact h.1
  | o' :: os, c :: cs, h, i + 1, h1, h2 => by
    have h' : OldOk P ops cl t0 B W w0 z os cs := by cases c <;> first | exact h.2 | exact h
    exact OldOk.get os cs h' i (by simpa using h1) (by simpa using h2)
theorem puts_inj : ∀ (cl : List Cls), (putsOf cl).Nodup → ∀ (i j : Nat) ia ic l ja jc m, cl[i]? = some (.put ia ic l) → cl[j]? = some (.put ja jc m) → i ≠ j → ia ≠ ja := by
  have hmem : ∀ (cl : List Cls) (k : Nat) ia ic l, cl[k]? = some (.put ia ic l) → ia ∈ putsOf cl := by
    intro cl
    induction cl with
    | nil => intro k ia ic l h; simp at h
    | cons c cl ih =>
      intro k ia ic l h
      cases k with
      | zero => simp at h; subst h; simp [putsOf]
      | succ k =>
        have := ih k ia ic l (by simpa using h)
        cases c <;> simp [putsOf, this]
  intro cl
  induction cl with
  | nil => intro _ i j ia ic l ja jc m h; simp at h
  | cons c cl ih =>
    intro hn i j ia ic l ja jc m hi hj hne
    have hn' : (putsOf cl).Nodup := by
      cases c <;> first | exact hn | exact (List.nodup_cons.1 hn).2
    cases i with
    | zero =>
      cases j with
      | zero => exact absurd rfl hne
      | succ j =>
        simp at hi; subst hi
        have h1 := (List.nodup_cons.1 hn).1
        have h2 := hmem cl j ja jc m (by simpa using hj)
        intro e; subst e; exact h1 h2
    | succ i =>
      cases j with
      | zero =>
        simp at hj; subst hj
        have h1 := (List.nodup_cons.1 hn).1
        have h2 := hmem cl i ia ic l (by simpa using hi)
        intro e; subst e; exact h1 h2
      | succ j => exact ih hn' i j ia ic l ja jc m (by simpa using hi) (by simpa using hj) (by omega)
theorem olds_one : ∀ (cl : List Cls), oldsOf cl ≤ 1 → ∀ (i j : Nat) x b T ic l x' b' T' ic' l', cl[i]? = some (.old x b T ic l) → cl[j]? = some (.old x' b' T' ic' l') → i = j := by
  have hpos : ∀ (cl : List Cls) (k : Nat) x b T ic l, cl[k]? = some (.old x b T ic l) → 0 < oldsOf cl := by
    intro cl
    induction cl with
    | nil => intro k x b T ic l h; simp at h
    | cons c cl ih =>
      intro k x b T ic l h
      cases k with
      | zero => simp at h; subst h; simp [oldsOf]
      | succ k =>
        have := ih k x b T ic l (by simpa using h)
        cases c <;> simp [oldsOf] <;> omega
  intro cl
  induction cl with
  | nil => intro _ i j x b T ic l x' b' T' ic' l' h; simp at h
  | cons c cl ih =>
    intro hn i j x b T ic l x' b' T' ic' l' hi hj
    have hn' : oldsOf cl ≤ 1 := by cases c <;> simp [oldsOf] at hn <;> omega
    cases i with
    | zero =>
      cases j with
      | zero => rfl
      | succ j =>
        simp at hi; subst hi
        have := hpos cl j x' b' T' ic' l' (by simpa using hj)
        simp [oldsOf] at hn; omega
    | succ i =>
      cases j with
      | zero =>
        simp at hj; subst hj
        have := hpos cl i x b T ic l (by simpa using hi)
        simp [oldsOf] at hn; omega
      | succ j => exact congrArg Nat.succ (ih hn' i j x b T ic l x' b' T' ic' l' (by simpa using hi) (by simpa using hj))

/-- THE LAW, by a list of what each operation is. -/
theorem wp_region_list {id : Nat} {a0 : Act} {w0 : World} (cl : List Cls) (B : Nat) (W : World) (z : Array Value) (af : Act) (hm : P.follows .mixedOrders = true) (hB : B ≤ W.heap.size) (hW : Below B W w0) (hlen : cl.length = ops.size)
    (hback : (ops.toList.zipIdx.all fun (o, i) => o.after.all fun e => decide (e.on < i)) = true) (hguard : (ops.all fun o => o.guard.isNone) = true)
    (hdst : nodupB (ops.toList.filterMap (·.dst)) = true) (hroom : (ops.toList.filterMap (·.dst)).all (fun d => decide (d < a0.tmps.size)) = true) (hreads : readsOk ops (clsOf cl) = true)
    (haf : af = ⟨fill a0.tmps (pairs ops (isVal (clsOf cl))), a0.defers⟩)
    (hputs : nodupB (putsOf cl) = true) (holds : decide (oldsOf cl ≤ 1) = true) (hwait : waitsB ops cl = true)
    (hval : ValOk P af B W (fun w => ∀ (j : Nat) x b T ic l, cl[j]? = some (.old x b T ic l) → Blk w b T z) ops.toList cl) (hnew : NewOk P ops.toList cl) (hput : PutOk P ops cl ops.toList cl) (hold : OldOk P ops cl a0.tmps B W w0 z ops.toList cl)
    (hend : ∀ (bs : Nat → Nat) (w : World), Below B W w → (∀ (i j : Nat) T n T' n', cl[i]? = some (.new T n) → cl[j]? = some (.new T' n') → i ≠ j → bs i ≠ bs j) → (∀ (i : Nat) T n, cl[i]? = some (.new T n) → W.heap.size ≤ bs i) →
      (∀ (i : Nat) ia ic l, cl[i]? = some (.put ia ic l) → ∃ T, cl[ia]? = some (.new T l.size) ∧ Blk w (bs ia) T l) → (∀ (i : Nat) x b T ic l, cl[i]? = some (.old x b T ic l) → Blk w b T l) → Q .normal ⟨fill a0.tmps (pairs ops fun i => some ((clsOf cl i).of (bs i))), a0.defers⟩ w) :
    (Code.region id ops true).wp P Q a0 w0 := by
  have hin : ∀ {i : Nat} {c : Cls}, i < cl.length → clsOf cl i = c → cl[i]? = some c := fun {i c} hi h => by
    unfold clsOf at h
    rw [List.getElem?_eq_getElem hi] at h ⊢
    simpa using h
  have hbig : ∀ {i : Nat}, ¬ i < cl.length → clsOf cl i = .put 0 0 #[] := fun {i} hi => by
    unfold clsOf; rw [List.getElem?_eq_none (by omega)]; rfl
  have hnorm : ∀ i : Nat, i < ops.size → i < cl.length := fun i h => by omega
  -- beyond the list nothing is listed: the law is used with a list of classes that says 'a value' there
  let cls : Nat → Cls := fun i => (cl[i]?).getD (.val undef)
  have hcls : ∀ {i : Nat} {c : Cls}, cls i = c → (∃ h : i < cl.length, cl[i]? = some c) ∨ c = .val undef := fun {i c} h => by
    by_cases hi : i < cl.length
    · refine .inl ⟨hi, ?_⟩
      have h' : (cl[i]?).getD (.val undef) = c := h
      rw [List.getElem?_eq_getElem hi] at h' ⊢
      simpa using h'
    · refine .inr ?_
      have h' : (cl[i]?).getD (.val undef) = c := h
      rw [List.getElem?_eq_none (by omega)] at h'
      exact h'.symm
  have hof : ∀ {i : Nat} {c : Cls}, cl[i]? = some c → cls i = c := fun {i c} h => by show (cl[i]?).getD _ = c; rw [h]; rfl
  have hsame : ∀ i, i < ops.size → cls i = clsOf cl i := fun i hi => by
    have := hnorm i hi
    show (cl[i]?).getD _ = (cl[i]?).getD _
    rw [List.getElem?_eq_getElem this]; rfl
  have hvals : pairs ops (isVal cls) = pairs ops (isVal (clsOf cl)) := by
    unfold pairs
    refine filterMap_same _ ?_
    rintro ⟨o, i⟩ hm
    rw [List.mem_zipIdx_iff_getElem?] at hm
    have hi : i < ops.size := (Array.getElem?_eq_some_iff.1 (by simpa using hm)).1
    simp only [isVal, hsame i hi]
  have hread2 : readsOk ops cls = true := by
    unfold readsOk at hreads ⊢
    rw [List.all_eq_true] at hreads ⊢
    rintro ⟨o, i⟩ hm
    have h1 := hreads (o, i) hm
    rw [List.mem_zipIdx_iff_getElem?] at hm
    have hi : i < ops.size := (Array.getElem?_eq_some_iff.1 (by simpa using hm)).1
    have hb := List.all_eq_true.1 hback (o, i) (by rw [List.mem_zipIdx_iff_getElem?]; exact hm)
    simp only [hsame i hi] at h1 ⊢
    cases hc : clsOf cl i with
    | val v =>
      simp only [hc, Bool.and_eq_true, Array.all_eq_true_iff_forall_mem] at h1 ⊢
      refine ⟨h1.1, fun x hx => ?_⟩
      have h2 := h1.2 x hx
      cases x with
      | tmp t =>
        simp only [Bool.or_eq_true] at h2 ⊢
        refine h2.imp (fun h3 => h3) fun h3 => ?_
        rw [← Array.any_toList, List.any_eq_true] at h3 ⊢
        obtain ⟨e, he, h4⟩ := h3
        refine ⟨e, he, ?_⟩
        rw [Array.mem_toList_iff] at he
        rw [Array.all_eq_true_iff_forall_mem] at hb
        have := of_decide_eq_true (hb e he)
        simp only [isVal, hsame e.on (by omega)] at h4 ⊢
        exact h4
      | _ => rfl
    | _ => rfl
  refine wp_region_tuple cls B W (fun _ => z) hm hB hW hback hguard (nodupB_spec hdst) hroom hread2 ?_ ?_ ?_ ?_ ?_ ?_ ?_ ?_
  · intro i o v ho hc w hw hS
    have hi : i < ops.size := (Array.getElem?_eq_some_iff.1 ho).1
    rw [hvals, ← haf]
    have hcv : cl[i]? = some (.val v) := by
      have h' : (cl[i]?).getD (.val undef) = .val v := hc
      rw [List.getElem?_eq_getElem (hnorm i hi)] at h' ⊢
      simpa using h'
    refine ValOk.get ops.toList cl hval i (by simpa using ho) hcv w hw fun j x b T ic l hj => ?_
    have hjl : j < ops.size := by
      have := (List.getElem?_eq_some_iff.1 hj).1
      omega
    refine hS j ops[j] x b T ic l (Array.getElem?_eq_getElem hjl) (hof hj) (any_edge ?_)
    have h1 := List.all_eq_true.1 hwait j (List.mem_range.2 hjl)
    simp only [clsOf_at hj] at h1
    have h2 := List.all_eq_true.1 h1 i (List.mem_range.2 hi)
    simp only [clsOf_at hcv] at h2
    simpa [Array.getElem?_eq_getElem hjl] using h2
  · intro i o T n ho hc
    rcases hcls hc with ⟨_, h⟩ | h
    · exact NewOk.get ops.toList cl hnew i (by simpa using ho) h
    · cases h
  · intro i o ia ic l ho hc
    rcases hcls hc with ⟨_, h⟩ | h
    · obtain ⟨T, x, y, h1, h2, h3, h4, h5, h6, h7, h8, h9, h10⟩ := PutOk.get ops.toList cl hput i (by simpa using ho) h
      obtain ⟨oa, ha1, ha2⟩ := bind_dst h3
      obtain ⟨oc, hc1, hc2⟩ := bind_dst h4
      exact ⟨T, x, y, oa, oc, h1, h2, ha1, ha2, hc1, hc2, hof h5, hof h6, any_edge h7, any_edge h8, h9, h10⟩
    · cases h
  · intro i j ia ic l ja jc m hi hj hne
    rcases hcls hi with ⟨_, h⟩ | h
    · rcases hcls hj with ⟨_, h'⟩ | h'
      · exact puts_inj cl (nodupB_spec hputs) i j ia ic l ja jc m h h' hne
      · cases h'
    · cases h
  · intro i o x b T ic l ho hc
    rcases hcls hc with ⟨_, h⟩ | h
    · obtain ⟨h1, h2, h3, h3', y, h4, h5, h6, h7, h8, h9, h10, h11, h12⟩ := OldOk.get ops.toList cl hold i (by simpa using ho) h
      obtain ⟨oc, hc1, hc2⟩ := bind_dst h6
      refine ⟨h1, h2, h3, h3', y, oc, h4, h5, hc1, hc2, hof h7, fun k ok hk e => ?_, h9, any_edge h10, h11, h12⟩
      rw [Array.all_eq_true_iff_forall_mem] at h8
      have := h8 ok (Array.mem_of_getElem? hk)
      simp [e] at this
    · cases h
  · intro i x b T ic l hc
    rcases hcls hc with ⟨h0, _⟩ | h
    · omega
    · cases h
  · intro i j x b T ic l x' b' T' ic' l' hi hj hne
    rcases hcls hi with ⟨_, h⟩ | h
    · rcases hcls hj with ⟨_, h'⟩ | h'
      · exact absurd (olds_one cl (of_decide_eq_true holds) i j x b T ic l x' b' T' ic' l' h h') hne
      · cases h'
    · cases h
  · intro bs w q1 q2 q3 q4 q5
    have hl : ∀ {i : Nat} {c : Cls}, cl[i]? = some c → i < ops.size := fun h => by
      have := (List.getElem?_eq_some_iff.1 h).1
      omega
    have e : (pairs ops fun i => some ((cls i).of (bs i))) = pairs ops fun i => some ((clsOf cl i).of (bs i)) := by
      unfold pairs
      refine filterMap_same _ ?_
      rintro ⟨o, i⟩ hm
      rw [List.mem_zipIdx_iff_getElem?] at hm
      have hi : i < ops.size := (Array.getElem?_eq_some_iff.1 (by simpa using hm)).1
      simp only [hsame i hi]
    rw [e]
    refine hend bs w q1 (fun i j T n T' n' hi hj hne => q2 i j T n T' n' (hl hi) (hl hj) (hof hi) (hof hj) hne) (fun i T n hi => q3 i T n (hl hi) (hof hi)) (fun i ia ic l hi => ?_) (fun i x b T ic l hi => q5 i x b T ic l (hl hi) (hof hi))
    obtain ⟨T, r1, r2⟩ := q4 i ia ic l (hl hi) (hof hi)
    rcases hcls r1 with ⟨_, h⟩ | h
    · exact ⟨T, h, r2⟩
    · cases h
end
end Go.Proofs.YtpcdiijmhllejaaDoor

/- A region that draws its order, in which all that makes or changes memory comes one behind the other: each such step may hand back whatever it likes. -/
namespace Go.Proofs.YtpcdiijmhllejaaDoor
open Go.RowKit

section
variable {P : Program} {ops : Array Oper} {Q : Exit → Act → World → Prop}

/-- What an operation of such a region is: a value that does not hang on the order; a step. -/
inductive Stp where
  | val (v : Value)
  | step
def Stp.isStep : Stp → Bool
  | .step => true
  | _ => false
def stepNo (cl : List Stp) (i : Nat) : Nat := ((cl.take i).filter Stp.isStep).length
def stepIs (cl : List Stp) (i : Nat) : Bool := ((cl[i]?).map Stp.isStep).getD false
def valIs (cl : List Stp) (i : Nat) : Bool := ((cl[i]?).map fun c => !c.isStep).getD false
def valAt (cl : List Stp) (us : List Value) (i : Nat) : Value := match cl[i]? with
  | some (.val v) => v
  | some .step => us.getD (stepNo cl i) undef
  | none => undef
def edgeB (o : Oper) (k : Nat) : Bool := o.after.any fun e => Region.binds .any e && e.on == k
def readsB (ops : Array Oper) (cl : List Stp) : Bool := (List.range ops.size).all fun i => match ops[i]? with
  | some o => (match o.op with | .select _ _ => false | _ => true) && o.op.operands.all fun x => match x with
    | .tmp t => (ops.all fun o' => o'.dst != some t) || o.after.any fun e => Region.binds .any e && ((ops[e.on]?).bind (·.dst) == some t) && (valIs cl e.on || stepIs cl i)
    | _ => true
  | none => true
/-- .. or one behind another. -/
def reachB (ops : Array Oper) : Nat → Oper → Nat → Bool
  | 0, _, _ => false
  | f + 1, o, k => o.after.any fun e => Region.binds .any e && (e.on == k || match ops[e.on]? with
    | some o' => reachB ops f o' k
    | none => false)
theorem reach_done {L : Array Bool} (hcl : ∀ (i : Nat) o, ops[i]? = some o → L.getD i false = true → ∀ e ∈ o.after, Region.binds .any e = true → L.getD e.on false = true) {k : Nat} : ∀ (f : Nat) (o : Oper), (∀ e ∈ o.after, Region.binds .any e = true → L.getD e.on false = true) → reachB ops f o k = true → L.getD k false = true
  | 0, _, _, h => by simp [reachB] at h
  | f + 1, o, hp, h => by
    unfold reachB at h
    rw [← Array.any_toList, List.any_eq_true] at h
    obtain ⟨e, he, h3⟩ := h
    rw [Array.mem_toList_iff] at he
    simp only [Bool.and_eq_true, Bool.or_eq_true, beq_iff_eq] at h3
    obtain ⟨hb, h4⟩ := h3
    rcases h4 with rfl | h4
    · exact hp e he hb
    · cases ho : ops[e.on]? with
      | none => simp [ho] at h4
      | some o' =>
        rw [ho] at h4
        exact reach_done hcl f o' (hcl e.on o' ho (hp e he hb)) h4
/-- The steps come one behind the other; those from m0 on wait for all values. -/
def chainB (ops : Array Oper) (cl : List Stp) (m0 m : Nat) : Bool := (List.range ops.size).all fun i => !stepIs cl i || (match ops[i]? with
  | some o => decide (stepNo cl i < m) && (stepNo cl i == 0 || (List.range ops.size).any fun j => stepIs cl j && stepNo cl j + 1 == stepNo cl i && edgeB o j) &&
      (decide (stepNo cl i < m0) || (List.range ops.size).all fun j => stepIs cl j || edgeB o j || reachB ops 4 o j) && (List.range ops.size).all fun j => !stepIs cl j || stepNo cl j != stepNo cl i || j == i
  | none => false)
def lastB (ops : Array Oper) (cl : List Stp) (m : Nat) : Bool := m == 0 || (List.range ops.size).any fun i => stepIs cl i && stepNo cl i + 1 == m

theorem upon_step {o : Oper} {a1 a2 : Act} {S : Value → World → Prop} (hl : ∀ d, o.dst = some d → d < a1.tmps.size) {r : Result Next}
    (h : o.upon P a1 (fun a' w' => ∃ u, a' = a1.put o.dst u ∧ S u w') (fun _ _ _ => False) r) : o.upon P a2 (fun a' w' => ∃ u, a' = a2.put o.dst u ∧ S u w') Q r := by
  have key : ∀ u w', (∃ v, a1.put o.dst u = a1.put o.dst v ∧ S v w') → ∃ v, a2.put o.dst u = a2.put o.dst v ∧ S v w' := fun u w' ⟨v, e, hs⟩ => by
    cases hd : o.dst with
    | none => exact ⟨v, rfl, hs⟩
    | some d =>
      have hl := hl d hd
      rw [hd] at e
      have := congrArg (fun a : Act => a.tmps[d]?) e
      have e2 : u = v := by simpa [Act.put, hl] using this
      subst e2
      exact ⟨u, rfl, hs⟩
  cases r with
  | ok n w' =>
    cases n <;> simp only [Oper.upon] at h ⊢
    case value u => exact key u w' h
    case skip => exact key _ w' h
    case defer dd =>
      obtain ⟨v, e, _⟩ := h
      have := congrArg (fun a : Act => a.defers.length) e
      cases hd : o.dst <;> rw [hd] at this <;> simp [Act.put] at this
    case enter f args =>
      refine Calls.mono h fun e w'' he => ?_
      cases e with
      | returned u => exact key u w'' he
      | panicked c => exact he.elim
      | outgrown => obtain ⟨_, _, hf⟩ := he; exact hf.elim
    case row row args => exact Rows.mono h fun u w'' he => key u w'' he
  | halt x w' => cases x <;> simp only [Oper.upon] at h ⊢

structure CI (ops : Array Oper) (cl : List Stp) (a0 : Act) (R : List Value → World → Prop) (m0 m : Nat) (us : List Value) (L : Array Bool) (a : Act) (w : World) : Prop where
  defers : a.defers = a0.defers
  size : a.tmps.size = a0.tmps.size
  out : ∀ t, (∀ (i : Nat) o, ops[i]? = some o → L.getD i false = true → o.dst ≠ some t) → a.tmps[t]? = a0.tmps[t]?
  inn : ∀ (i : Nat) o d, ops[i]? = some o → L.getD i false = true → o.dst = some d → a.tmps[d]? = some (valAt cl us i)
  steps : ∀ i, i < ops.size → stepIs cl i = true → (L.getD i false = true ↔ stepNo cl i < us.length)
  early : m0 < us.length → ∀ i, i < ops.size → stepIs cl i = false → L.getD i false = true
  count : us.length ≤ m
  closed : ∀ (i : Nat) o, ops[i]? = some o → L.getD i false = true → ∀ e ∈ o.after, Region.binds .any e = true → L.getD e.on false = true
  rel : R us w

section
variable {cl : List Stp} {a0 : Act} {R : List Value → World → Prop} {m0 m : Nat} {us : List Value} {L : Array Bool} {a : Act} {w : World}
theorem CI.tmps {i : Nat} {o : Oper} (h : CI ops cl a0 R m0 m us L a w) (hi : ops[i]? = some o) (hL : i < L.size) (hun : L.getD i false = false)
    (hdist : ∀ (i j : Nat) oi oj d, ops[i]? = some oi → ops[j]? = some oj → oi.dst = some d → oj.dst = some d → i = j) (hroom : ∀ (i : Nat) o d, ops[i]? = some o → o.dst = some d → d < a0.tmps.size)
    (v : Value) (us' : List Value) (hus : ∀ (j : Nat) oj, ops[j]? = some oj → L.getD j false = true → valAt cl us' j = valAt cl us j) (hv : v = valAt cl us' i ∨ o.dst = none) :
    (a.put o.dst v).defers = a0.defers ∧ (a.put o.dst v).tmps.size = a0.tmps.size ∧
    (∀ t, (∀ (k : Nat) ok, ops[k]? = some ok → (L.setIfInBounds i true).getD k false = true → ok.dst ≠ some t) → (a.put o.dst v).tmps[t]? = a0.tmps[t]?) ∧
    (∀ (k : Nat) ok d, ops[k]? = some ok → (L.setIfInBounds i true).getD k false = true → ok.dst = some d → (a.put o.dst v).tmps[d]? = some (valAt cl us' k)) := by
  refine ⟨?_, ?_, fun t ht => ?_, fun k ok d hk hLk hd => ?_⟩
  · cases hd : o.dst <;> simp [Act.put, h.defers]
  · cases hd : o.dst <;> simp [Act.put, h.size]
  · have h1 := ht i o hi ((getD_set_iff hL).2 (.inl rfl))
    have h2 := h.out t fun k ok hk hLk => ht k ok hk ((getD_set_iff hL).2 (.inr hLk))
    cases hd : o.dst with
    | none => exact h2
    | some d =>
      rw [← h2]
      simp only [Act.put]
      exact Array.getElem?_setIfInBounds_ne (fun e => h1 (by rw [hd, e]))
  · rcases (getD_set_iff hL).1 hLk with rfl | hLk2
    · rw [hi] at hk; injection hk with hk; subst hk
      rcases hv with hv | hv
      · rw [hd, ← hv]
        have := hroom k o d hi hd
        simp [Act.put, h.size, this]
      · rw [hv] at hd; cases hd
    · have hne : k ≠ i := fun e => by rw [e, hun] at hLk2; cases hLk2
      rw [hus k ok hk hLk2, ← h.inn k ok d hk hLk2 hd]
      cases hdo : o.dst with
      | none => rfl
      | some d' =>
        simp only [Act.put]
        exact Array.getElem?_setIfInBounds_ne (fun e => hne (hdist k i ok o d hk hi hd (by rw [hdo, e])))

/-- The frame with what is known of it. -/
def chainAct (ops : Array Oper) (cl : List Stp) (a0 : Act) (us : List Value) : Act := ⟨fill a0.tmps (pairs ops fun i => some (valAt cl us i)), a0.defers⟩

theorem CI.eval {i : Nat} {o : Oper} (h : CI ops cl a0 R m0 m us L a w) (hi : ops[i]? = some o) (hreads : readsB ops cl = true) (hdst : (ops.toList.filterMap (·.dst)).Nodup)
    (hroom : ∀ (i : Nat) o d, ops[i]? = some o → o.dst = some d → d < a0.tmps.size) (hp : ∀ e ∈ o.after, Region.binds .any e = true → L.getD e.on false = true)
    (us' : List Value) (hus : us' = us ∨ stepIs cl i = false) :
    (∀ cs b, o.op ≠ .select cs b) ∧ ∀ x ∈ o.op.operands, a.eval x = (chainAct ops cl a0 us').eval x := by
  have hlt : i < ops.size := (Array.getElem?_eq_some_iff.1 hi).1
  have h1 := List.all_eq_true.1 hreads i (List.mem_range.2 hlt)
  simp only [hi, Bool.and_eq_true] at h1
  obtain ⟨hsel, hops⟩ := h1
  refine ⟨fun cs b e => by rw [e] at hsel; simp at hsel, fun x hx => ?_⟩
  rw [Array.all_eq_true_iff_forall_mem] at hops
  have h2 := hops x hx
  cases x with
  | tmp t =>
    simp only [Bool.or_eq_true] at h2
    rcases h2 with h2 | h2
    · rw [Array.all_eq_true_iff_forall_mem] at h2
      have hno : ∀ (k : Nat) ok, ops[k]? = some ok → ok.dst ≠ some t := fun k ok hk e => by
        have := h2 ok (Array.mem_of_getElem? hk)
        simp [e] at this
      have e1 := h.out t fun k ok hk _ => hno k ok hk
      have e2 := fill_other (pairs ops fun i => some (valAt cl us' i)) t a0.tmps fun p hp e => by
        obtain ⟨k, ok, hk, hd, _⟩ := pairs_mem hp
        exact hno k ok hk (by rw [hd, e])
      simp [Act.eval, Array.getD_eq_getD_getElem?, chainAct, e1, e2]
    · rw [← Array.any_toList, List.any_eq_true] at h2
      obtain ⟨e, he, h3⟩ := h2
      rw [Array.mem_toList_iff] at he
      simp only [Bool.and_eq_true, Bool.or_eq_true, beq_iff_eq] at h3
      obtain ⟨⟨hb, hd⟩, hv⟩ := h3
      cases hoe : ops[e.on]? with
      | none => simp [hoe] at hd
      | some oe =>
        simp only [hoe, Option.bind_some] at hd
        have e1 := h.inn e.on oe t hoe (hp e he hb) hd
        have e2 := fill_at (pairs ops fun i => some (valAt cl us' i)) (pairs_nodup _ hdst) t (valAt cl us' e.on) a0.tmps (hroom _ _ _ hoe hd) (pairs_has hoe hd rfl)
        have e3 : valAt cl us' e.on = valAt cl us e.on := by
          rcases hus with rfl | hus
          · rfl
          · rcases hv with hv | hv
            · unfold valIs at hv
              unfold valAt
              cases hc : cl[e.on]? with
              | none => simp [hc] at hv
              | some c => cases c with
                | val v => rfl
                | step => simp [hc, Stp.isStep] at hv
            · rw [hus] at hv; cases hv
        rw [e3] at e2
        simp [Act.eval, Array.getD_eq_getD_getElem?, chainAct, e1, e2]
  | _ => rfl
end

theorem valAt_more {cl : List Stp} {us : List Value} {u : Value} {i : Nat} (h : stepIs cl i = true → stepNo cl i < us.length) : valAt cl (us ++ [u]) i = valAt cl us i := by
  unfold valAt
  cases hc : cl[i]? with
  | none => rfl
  | some c => cases c with
    | val v => rfl
    | step =>
      have := h (by simp [stepIs, hc, Stp.isStep])
      simp [List.getD_eq_getElem?_getD, List.getElem?_append_left this]

def ValOk2 (P : Program) (af : Act) (m0 : Nat) (R : List Value → World → Prop) : List Oper → List Stp → Prop
  | o :: os, .val v :: cs => (∀ us w, us.length ≤ m0 → R us w → o.wp P af w (fun a' w' => a' = af.put o.dst v ∧ Below w.heap.size w w') (fun _ _ _ => False)) ∧ ValOk2 P af m0 R os cs
  | _ :: os, .step :: cs => ValOk2 P af m0 R os cs
  | _, _ => True
def StepOk (P : Program) (af : List Value → Act) (R : List Value → World → Prop) : Nat → List Oper → List Stp → Prop
  | k, o :: os, .step :: cs => (∀ us w, us.length = k → R us w → o.wp P (af us) w (fun a' w' => ∃ u, a' = (af us).put o.dst u ∧ R (us ++ [u]) w') (fun _ _ _ => False)) ∧ StepOk P af R (k + 1) os cs
  | k, _ :: os, .val _ :: cs => StepOk P af R k os cs
  | _, _, _ => True
theorem ValOk2.get {af : Act} {m0 : Nat} {R : List Value → World → Prop} {v : Value} {o : Oper} : ∀ (os : List Oper) (cs : List Stp), ValOk2 P af m0 R os cs → ∀ i : Nat, os[i]? = some o → cs[i]? = some (.val v) → ∀ us w, us.length ≤ m0 → R us w → o.wp P af w (fun a' w' => a' = af.put o.dst v ∧ Below w.heap.size w w') (fun _ _ _ => False)
  | [], _, _, i, h1, _ => by simp at h1
  | _ :: _, [], _, i, _, h2 => by simp at h2
  | o' :: os, c :: cs, h, 0, h1, h2 => by
    simp at h1 h2; subst h1 h2
    exact h.1
  | o' :: os, c :: cs, h, i + 1, h1, h2 => by
    have h' : ValOk2 P af m0 R os cs := by cases c <;> first | exact h.2 | exact h
    exact ValOk2.get os cs h' i (by simpa using h1) (by simpa using h2)
theorem StepOk.get {af : List Value → Act} {R : List Value → World → Prop} {o : Oper} : ∀ (os : List Oper) (cs : List Stp) (k : Nat), StepOk P af R k os cs → ∀ i : Nat, os[i]? = some o → cs[i]? = some .step → ∀ us w, us.length = k + stepNo cs i → R us w → o.wp P (af us) w (fun a' w' => ∃ u, a' = (af us).put o.dst u ∧ R (us ++ [u]) w') (fun _ _ _ => False)
  | [], _, _, _, i, h1, _ => by simp at h1
  | _ :: _, [], _, _, i, _, h2 => by simp at h2
  | o' :: os, c :: cs, k, h, 0, h1, h2 => by
    simp at h1 h2; subst h1 h2
    intro us w hu
    exact h.1 us w (by simpa [stepNo] using hu)
  | o' :: os, c :: cs, k, h, i + 1, h1, h2 => by
    intro us w hu hr
    cases c with
    | val v =>
      have h' : StepOk P af R k os cs := h
      exact StepOk.get os cs k h' i (by simpa using h1) (by simpa using h2) us w (by simpa [stepNo, Stp.isStep] using hu) hr
    | step =>
      exact StepOk.get os cs (k + 1) h.2 i (by simpa using h1) (by simpa using h2) us w (by rw [hu]; show _ = k + 1 + _; unfold stepNo; rw [List.take_succ_cons, List.filter_cons_of_pos rfl, List.length_cons]; omega) hr

theorem wp_region_chain {id : Nat} {a0 : Act} {w0 : World} (cl : List Stp) (m0 m : Nat) (R : List Value → World → Prop) (af : List Value → Act) (hm : P.follows .mixedOrders = true) (hlen : cl.length = ops.size)
    (hback : (ops.toList.zipIdx.all fun (o, i) => o.after.all fun e => decide (e.on < i)) = true) (hguard : (ops.all fun o => o.guard.isNone) = true)
    (hdst : nodupB (ops.toList.filterMap (·.dst)) = true) (hroom : (ops.toList.filterMap (·.dst)).all (fun d => decide (d < a0.tmps.size)) = true) (hreads : readsB ops cl = true)
    (hvald : ((List.range ops.size).all fun i => stepIs cl i || ((ops[i]?).bind (·.dst)).isSome) = true)
    (hchain : chainB ops cl m0 m = true) (hlast : lastB ops cl m = true) (haf : af = chainAct ops cl a0)
    (hR : ∀ us w w', us.length ≤ m0 → R us w → Below w.heap.size w w' → R us w') (h0 : R [] w0.drew)
    (hval : ValOk2 P (af []) m0 R ops.toList cl) (hstep : StepOk P af R 0 ops.toList cl)
    (hend : ∀ us w, us.length = m → R us w → Q .normal (af us) w) :
    (Code.region id ops true).wp P Q a0 w0 := by
  subst haf
  have hnd := nodupB_spec hdst
  have hdist := dst_inj hnd
  have hroom' : ∀ (i : Nat) o d, ops[i]? = some o → o.dst = some d → d < a0.tmps.size := fun i o d hi hd =>
    of_decide_eq_true (List.all_eq_true.1 hroom d (by rw [List.mem_filterMap]; exact ⟨o, Array.mem_toList_iff.2 (Array.mem_of_getElem? hi), hd⟩))
  refine wp_region_any hm (wpAny_inv (fun L a w => ∃ us, CI ops cl a0 R m0 m us L a w) hback hguard ?_ ?_ _ _ _ _ (by simp) ?_ ?_)
  · rintro L a w ⟨us, h⟩ i o hi hs hun hp
    have hlt : i < ops.size := (Array.getElem?_eq_some_iff.1 hi).1
    have hL : i < L.size := by omega
    have hun' : L.getD i false = false := by simp [hL] at hun ⊢; exact hun
    have hkeep : ∀ j, j ≠ i → (L.setIfInBounds i true).getD j false = L.getD j false := fun j hj => getD_set_ne false (Ne.symm hj)
    have hci : i < cl.length := by omega
    have hclosed : ∀ (j : Nat) oj, ops[j]? = some oj → (L.setIfInBounds i true).getD j false = true → ∀ e ∈ oj.after, Region.binds .any e = true → (L.setIfInBounds i true).getD e.on false = true := fun j oj hj hLj e he hb => by
      rw [getD_set_iff hL] at hLj ⊢
      rcases hLj with rfl | hLj
      · rw [hi] at hj; injection hj with hj; subst hj
        exact .inr (hp e he hb)
      · exact .inr (h.closed j oj hj hLj e he hb)
    cases hc : stepIs cl i with
    | false =>
      obtain ⟨v, hv⟩ : ∃ v, cl[i]? = some (.val v) := by
        cases hx : cl[i]? with
        | none => simp at hx; omega
        | some c => cases c with
          | val v => exact ⟨v, rfl⟩
          | step => simp [stepIs, hx, Stp.isStep] at hc
      have hle : us.length ≤ m0 := by
        rcases Nat.lt_or_ge m0 us.length with h1 | h1
        · rw [h.early h1 i hlt hc] at hun'; cases hun'
        · exact h1
      obtain ⟨hsel, hev⟩ := h.eval hi hreads hnd hroom' hp [] (.inr hc)
      obtain ⟨d, hd⟩ : ∃ d, o.dst = some d := by
        have := List.all_eq_true.1 hvald i (List.mem_range.2 hlt)
        simp only [hc, hi, Bool.false_or, Option.bind_some] at this
        exact Option.isSome_iff_exists.1 this
      have h1 := ValOk2.get _ _ hval i (by simpa using hi) hv us w hle h.rel
      unfold Oper.wp at h1
      rw [← execOp_congr o hsel hev] at h1
      have h2 := upon_swap (a2 := a) (Q := Q) hd (by simp only [chainAct, fill_size]; exact hroom' i o d hi hd) h1
      refine Oper.wp_mono ?_ h2
      rintro a' w' ⟨rfl, hb⟩
      have hva : v = valAt cl us i := by unfold valAt; rw [hv]
      obtain ⟨t1, t2, t3, t4⟩ := h.tmps hi hL hun' hdist hroom' v us (fun _ _ _ _ => rfl) (.inl hva)
      refine ⟨us, t1, t2, t3, t4, fun j hj hcj => ?_, fun hm0 j hj hcj => ?_, h.count, hclosed, hR us w w' hle h.rel hb⟩
      · rw [hkeep j (fun e => by rw [e, hc] at hcj; cases hcj)]; exact h.steps j hj hcj
      · omega
    | true =>
      have hci2 : cl[i]? = some .step := by
        cases hx : cl[i]? with
        | none => simp at hx; omega
        | some c => cases c with
          | val v => simp [stepIs, hx, Stp.isStep] at hc
          | step => rfl
      have hch := List.all_eq_true.1 hchain i (List.mem_range.2 hlt)
      simp only [hc, hi, Bool.not_true, Bool.false_or, Bool.and_eq_true, Bool.or_eq_true, decide_eq_true_eq, beq_iff_eq] at hch
      obtain ⟨⟨⟨hkm, hprev⟩, hall⟩, hinj⟩ := hch
      have hge : us.length ≤ stepNo cl i := by
        rcases Nat.lt_or_ge (stepNo cl i) us.length with h1 | h1
        · rw [(h.steps i hlt hc).2 h1] at hun'; cases hun'
        · exact h1
      have hk : us.length = stepNo cl i := by
        rcases hprev with h1 | h1
        · omega
        · rw [List.any_eq_true] at h1
          obtain ⟨j, hj, h2⟩ := h1
          simp only [Bool.and_eq_true, beq_iff_eq] at h2
          obtain ⟨⟨h3, h4⟩, h5⟩ := h2
          obtain ⟨e, he, hb, rfl⟩ := any_edge h5
          have := (h.steps e.on (List.mem_range.1 hj) h3).1 (hp e he hb)
          omega
      obtain ⟨hsel, hev⟩ := h.eval hi hreads hnd hroom' hp us (.inl rfl)
      have h1 := StepOk.get _ _ 0 hstep i (by simpa using hi) hci2 us w (by omega) h.rel
      unfold Oper.wp at h1
      rw [← execOp_congr o hsel hev] at h1
      have h2 := upon_step (a2 := a) (Q := Q) (by intro d hd; simp only [chainAct, fill_size]; exact hroom' i o d hi hd) h1
      refine Oper.wp_mono ?_ h2
      rintro a' w' ⟨u, rfl, hr⟩
      have hua : u = valAt cl (us ++ [u]) i := by
        unfold valAt; rw [hci2]; simp [List.getD_eq_getElem?_getD, ← hk]
      have husame : ∀ (j : Nat) oj, ops[j]? = some oj → L.getD j false = true → valAt cl (us ++ [u]) j = valAt cl us j := fun j oj hj hLj =>
        valAt_more fun hcj => (h.steps j (Array.getElem?_eq_some_iff.1 hj).1 hcj).1 hLj
      obtain ⟨t1, t2, t3, t4⟩ := h.tmps hi hL hun' hdist hroom' u (us ++ [u]) husame (.inl hua)
      refine ⟨us ++ [u], t1, t2, t3, t4, fun j hj hcj => ?_, fun hm0 j hj hcj => ?_, by simp; omega, hclosed, hr⟩
      · by_cases hji : j = i
        · subst hji
          simp [hL, hk]
        · rw [hkeep j hji, h.steps j hj hcj]
          have h3 := List.all_eq_true.1 hinj j (List.mem_range.2 hj)
          simp only [hcj, Bool.not_true, Bool.false_or, Bool.or_eq_true, bne_iff_ne, ne_eq, beq_iff_eq] at h3
          have h4 := h3.resolve_right hji
          simp; omega
      · rw [hkeep j (fun e => by rw [e, hc] at hcj; cases hcj)]
        simp at hm0
        rcases hall with h3 | h3
        · exact h.early (by omega) j hj hcj
        · have h4 := List.all_eq_true.1 h3 j (List.mem_range.2 hj)
          simp only [hcj, Bool.false_or, Bool.or_eq_true] at h4
          rcases h4 with h4 | h4
          · obtain ⟨e, he, hb, rfl⟩ := any_edge h4
            exact hp e he hb
          · exact reach_done h.closed 4 o hp h4
  · rintro L a w ⟨us, h⟩ hdone
    have hum : us.length = m := by
      have := h.count
      unfold lastB at hlast
      simp only [Bool.or_eq_true, beq_iff_eq, List.any_eq_true, Bool.and_eq_true] at hlast
      rcases hlast with h1 | ⟨i, h1, h2, h3⟩
      · omega
      · have := (h.steps i (List.mem_range.1 h1) h2).1 (hdone i (List.mem_range.1 h1))
        omega
    have hact : a = chainAct ops cl a0 us := by
      obtain ⟨t, d⟩ := a
      have h1 := h.defers
      simp only at h1
      subst h1
      unfold chainAct
      have h2 := fill_unique (pairs ops fun i => some (valAt cl us i)) (pairs_nodup _ hnd) a0.tmps t h.size (fun d hd => ?_) (fun p hp _ => ?_)
      · rw [← h2]
      · refine h.out d fun i o hi _ hd2 => ?_
        exact hd _ (pairs_has hi hd2 rfl) rfl
      · obtain ⟨i, o, hi, hd, hv⟩ := pairs_mem hp
        have := h.inn i o p.1 hi (hdone i (Array.getElem?_eq_some_iff.1 hi).1) hd
        rw [this]; exact hv
    rw [hact]
    exact hend us w hum h.rel
  · have : (List.filter (fun i => !(Array.replicate ops.size false).getD i false) (List.range ops.size)).length ≤ (List.range ops.size).length := List.length_filter_le _ _
    unfold unlisted
    simpa using this
  · have hno : ∀ i, (Array.replicate ops.size false).getD i false = true → False := fun i hL => by
      simp at hL; rcases Nat.lt_or_ge i ops.size with h | h <;> simp [h] at hL
    refine ⟨[], rfl, rfl, fun _ _ => rfl, fun i o d _ hL _ => (hno i hL).elim, fun i _ _ => ⟨fun hL => (hno i hL).elim, fun h => by simp at h⟩, fun h => by simp at h, by simp, fun i o _ hL => (hno i hL).elim, h0⟩

/-! The same in the form in which it is used: up to the m0-th step all is made in new memory; what is told of it (G) stays true as memory grows; from there on F. -/
def ValsOk (P : Program) (af : Act) (B : Nat) (W : World) : List Oper → List Stp → Prop
  | o :: os, .val v :: cs => (∀ w, Below B W w → o.wp P af w (fun a' w' => a' = af.put o.dst v ∧ Below w.heap.size w w') (fun _ _ _ => False)) ∧ ValsOk P af B W os cs
  | _ :: os, .step :: cs => ValsOk P af B W os cs
  | _, _ => True
def StepsOk (P : Program) (af : List Value → Act) (B : Nat) (W : World) (G F : List Value → World → Prop) (m0 : Nat) : List Value → List Oper → List Stp → Prop
  | us, o :: os, .step :: cs => (if us.length < m0 then ∀ w, Below B W w → G us w → o.wp P (af us) w (fun a' w' => ∃ u, a' = (af us).put o.dst u ∧ Below B W w' ∧ G (us ++ [u]) w') (fun _ _ _ => False)
      else if us.length = m0 then ∀ w, Below B W w → G us w → o.wp P (af us) w (fun a' w' => ∃ u, a' = (af us).put o.dst u ∧ F (us ++ [u]) w') (fun _ _ _ => False)
      else ∀ w, F us w → o.wp P (af us) w (fun a' w' => ∃ u, a' = (af us).put o.dst u ∧ F (us ++ [u]) w') (fun _ _ _ => False)) ∧ ∀ u, StepsOk P af B W G F m0 (us ++ [u]) os cs
  | us, _ :: os, .val _ :: cs => StepsOk P af B W G F m0 us os cs
  | _, _, _ => True
/-- What is told while the steps go on. -/
def chainR (B : Nat) (W : World) (G F : List Value → World → Prop) (m0 : Nat) (us : List Value) (w : World) : Prop := if us.length ≤ m0 then Below B W w ∧ G us w else F us w

theorem ValsOk.to {af : Act} {B : Nat} {W : World} {G F : List Value → World → Prop} {m0 : Nat} : ∀ (os : List Oper) (cs : List Stp), ValsOk P af B W os cs → ValOk2 P af m0 (chainR B W G F m0) os cs
  | [], _, _ => by unfold ValOk2; trivial
  | _ :: _, [], _ => by unfold ValOk2; trivial
  | o :: os, .val v :: cs, h => ⟨fun us w hus hr => by unfold chainR at hr; rw [if_pos hus] at hr; exact h.1 w hr.1, ValsOk.to os cs h.2⟩
  | o :: os, .step :: cs, h => ValsOk.to (af := af) (B := B) (W := W) os cs h
theorem StepsOk.to {af : List Value → Act} {B : Nat} {W : World} {G F : List Value → World → Prop} {m0 : Nat} : ∀ (os : List Oper) (cs : List Stp) (k : Nat), (∀ us, us.length = k → StepsOk P af B W G F m0 us os cs) → StepOk P af (chainR B W G F m0) k os cs
  | [], _, _, _ => by unfold StepOk; trivial
  | _ :: _, [], _, _ => by unfold StepOk; trivial
  | o :: os, .val v :: cs, k, h => StepsOk.to os cs k h
  | o :: os, .step :: cs, k, h => by
    refine ⟨fun us w hus hr => ?_, StepsOk.to os cs (k + 1) fun us hus => ?_⟩
    · have h1 := (h us hus).1
      unfold chainR at hr
      by_cases c1 : us.length < m0
      · rw [if_pos c1] at h1
        rw [if_pos (by omega)] at hr
        refine Oper.wp_mono ?_ (h1 w hr.1 hr.2)
        rintro a' w' ⟨u, rfl, hb, hg⟩
        exact ⟨u, rfl, by unfold chainR; rw [if_pos (by simp; omega)]; exact ⟨hb, hg⟩⟩
      · rw [if_neg c1] at h1
        by_cases c2 : us.length = m0
        · rw [if_pos c2] at h1
          rw [if_pos (by omega)] at hr
          refine Oper.wp_mono ?_ (h1 w hr.1 hr.2)
          rintro a' w' ⟨u, rfl, hf⟩
          exact ⟨u, rfl, by unfold chainR; rw [if_neg (by simp; omega)]; exact hf⟩
        · rw [if_neg c2] at h1
          rw [if_neg (by omega)] at hr
          refine Oper.wp_mono ?_ (h1 w hr)
          rintro a' w' ⟨u, rfl, hf⟩
          exact ⟨u, rfl, by unfold chainR; rw [if_neg (by simp; omega)]; exact hf⟩
    · obtain ⟨us', u, rfl⟩ : ∃ us' u, us = us' ++ [u] := ⟨us.dropLast, us.getLast (by intro e; rw [e] at hus; simp at hus), (List.dropLast_concat_getLast _).symm⟩
      exact (h us' (by simpa using hus)).2 u

theorem wp_region_stepsB {id : Nat} {a0 : Act} {w0 : World} (cl : List Stp) (m0 m : Nat) (B : Nat) (W : World) (hB : B ≤ W.heap.size) (G F : List Value → World → Prop) (af : List Value → Act) (hm : P.follows .mixedOrders = true) (hlen : cl.length = ops.size)
    (hback : (ops.toList.zipIdx.all fun (o, i) => o.after.all fun e => decide (e.on < i)) = true) (hguard : (ops.all fun o => o.guard.isNone) = true)
    (hdst : nodupB (ops.toList.filterMap (·.dst)) = true) (hroom : (ops.toList.filterMap (·.dst)).all (fun d => decide (d < a0.tmps.size)) = true) (hreads : readsB ops cl = true)
    (hvald : ((List.range ops.size).all fun i => stepIs cl i || ((ops[i]?).bind (·.dst)).isSome) = true)
    (hchain : chainB ops cl m0 m = true) (hlast : lastB ops cl m = true) (haf : af = chainAct ops cl a0)
    (hG : ∀ us w w', G us w → Below w.heap.size w w' → G us w') (h0 : Below B W w0) (hg0 : G [] w0.drew)
    (hval : ValsOk P (af []) B W ops.toList cl) (hstep : StepsOk P af B W G F m0 [] ops.toList cl)
    (hend : ∀ us w, us.length = m → (if m ≤ m0 then Below B W w ∧ G us w else F us w) → Q .normal (af us) w) :
    (Code.region id ops true).wp P Q a0 w0 := by
  refine wp_region_chain cl m0 m (chainR B W G F m0) af hm hlen hback hguard hdst hroom hreads hvald hchain hlast haf ?_ ?_ (ValsOk.to _ _ hval) (StepsOk.to _ _ 0 fun us hus => ?_) fun us w hus hr => hend us w hus ?_
  · intro us w w' hus hr hb
    unfold chainR at hr ⊢
    rw [if_pos hus] at hr ⊢
    exact ⟨hr.1.trans (hb.mono (Nat.le_trans hB hr.1.size)), hG us w w' hr.2 hb⟩
  · unfold chainR
    rw [if_pos (by simp)]
    exact ⟨h0.drew, hg0⟩
  · obtain rfl := List.eq_nil_of_length_eq_zero hus
    exact hstep
  · unfold chainR at hr
    rw [hus] at hr; exact hr
theorem wp_region_steps {id : Nat} {a0 : Act} {w0 : World} (cl : List Stp) (m0 m : Nat) (W : World) (G F : List Value → World → Prop) (af : List Value → Act) (hm : P.follows .mixedOrders = true) (hlen : cl.length = ops.size)
    (hback : (ops.toList.zipIdx.all fun (o, i) => o.after.all fun e => decide (e.on < i)) = true) (hguard : (ops.all fun o => o.guard.isNone) = true)
    (hdst : nodupB (ops.toList.filterMap (·.dst)) = true) (hroom : (ops.toList.filterMap (·.dst)).all (fun d => decide (d < a0.tmps.size)) = true) (hreads : readsB ops cl = true)
    (hvald : ((List.range ops.size).all fun i => stepIs cl i || ((ops[i]?).bind (·.dst)).isSome) = true)
    (hchain : chainB ops cl m0 m = true) (hlast : lastB ops cl m = true) (haf : af = chainAct ops cl a0)
    (hG : ∀ us w w', G us w → Below w.heap.size w w' → G us w') (h0 : Below W.heap.size W w0) (hg0 : G [] w0.drew)
    (hval : ValsOk P (af []) W.heap.size W ops.toList cl) (hstep : StepsOk P af W.heap.size W G F m0 [] ops.toList cl)
    (hend : ∀ us w, us.length = m → (if m ≤ m0 then Below W.heap.size W w ∧ G us w else F us w) → Q .normal (af us) w) :
    (Code.region id ops true).wp P Q a0 w0 :=
  wp_region_stepsB cl m0 m W.heap.size W (Nat.le_refl _) G F af hm hlen hback hguard hdst hroom hreads hvald hchain hlast haf hG h0 hg0 hval hstep hend
end
end Go.Proofs.YtpcdiijmhllejaaDoor

/- A region that draws its order: each operation hands back whatever it likes, of which something is told that stays true; variables made and stored in; guards that are decided: ONE goal an operation, one end. -/
namespace Go.Proofs.YtpcdiijmhllejaaDoor
open Go.RowKit

/-- Old blocks are as they were, but for those of variables (their types: Ts) from B on. -/
structure KeptV (B : Nat) (Ts : List TypeId) (w w' : World) : Prop where
  size : w.heap.size ≤ w'.heap.size
  block : ∀ g, g < w.heap.size → w'.heap[g]? = w.heap[g]? ∨ (B ≤ g ∧ ∃ T ∈ Ts, ∃ cs, Blk w g T cs)
theorem KeptV.refl (B : Nat) (Ts : List TypeId) (w : World) : KeptV B Ts w w := ⟨Nat.le_refl _, fun _ _ => .inl rfl⟩
theorem KeptV.trans {B : Nat} {Ts : List TypeId} {a b c : World} (h : KeptV B Ts a b) (k : KeptV B Ts b c) : KeptV B Ts a c := by
  refine ⟨Nat.le_trans h.size k.size, fun g hg => ?_⟩
  rcases h.block g hg with e | e
  · rcases k.block g (Nat.lt_of_lt_of_le hg h.size) with e2 | ⟨h1, T, hT, cs, h2⟩
    · exact .inl (e2.trans e)
    · exact .inr ⟨h1, T, hT, cs, by unfold Blk at h2 ⊢; rw [← e]; exact h2⟩
  · exact .inr e
theorem KeptV.drew {B : Nat} {Ts : List TypeId} {a b : World} (h : KeptV B Ts a b) : KeptV B Ts a b.drew := ⟨h.size, h.block⟩
theorem KeptV.of_below {B : Nat} {Ts : List TypeId} {w w' : World} (h : Below w.heap.size w w') : KeptV B Ts w w' := ⟨h.size, fun g hg => .inl (h.block g hg)⟩
theorem setCells_size (b : Nat) : ∀ (vs : List Value) (o : Nat) (w : World), (w.setCells b o vs).heap.size = w.heap.size
  | [], _, _ => rfl
  | v :: r, o, w => by rw [World.setCells, setCells_size b r]; simp [World.setCell]
theorem setCells_far (b : Nat) : ∀ (vs : List Value) (o : Nat) (w : World) (g : Nat), g ≠ b → (w.setCells b o vs).heap[g]? = w.heap[g]?
  | [], _, _, _, _ => rfl
  | v :: r, o, w, g, h => by rw [World.setCells, setCells_far b r _ _ g h]; exact Below.heap_setCell w ⟨b, o, none⟩ v g (fun e => h e)
theorem KeptV.setCells {B : Nat} {Ts : List TypeId} {w : World} {b : Nat} {T : TypeId} {cs : Array Value} (h : Blk w b T cs) (hT : T ∈ Ts) (hb : B ≤ b) (o : Nat) (vs : List Value) : KeptV B Ts w (w.setCells b o vs) := by
  refine ⟨by rw [setCells_size]; exact Nat.le_refl _, fun g hg => ?_⟩
  by_cases e : g = b
  · subst e; exact .inr ⟨hb, T, hT, cs, h⟩
  · exact .inl (setCells_far b vs o w g e)
/-- A block of another type stays. -/
theorem KeptV.blk {B : Nat} {Ts : List TypeId} {w w' : World} {g : Nat} {T : TypeId} {cs : Array Value} (k : KeptV B Ts w w') (h : Blk w g T cs) (hT : T ∉ Ts) : Blk w' g T cs := by
  rcases k.block g h.lt with e | ⟨_, T', hT', cs', h'⟩
  · exact e.trans h
  · unfold Blk at h h'
    rw [h] at h'
    injection h' with h'
    injection h' with _ h'
    subst h'
    exact absurd hT' hT
theorem KeptV.own {B : Nat} {Ts : List TypeId} {w w' : World} {base : Nat} {e : TypeId} {size n : Nat} {v : Value} {xs : List Value} (k : KeptV B Ts w w') (h : w.ownsRow base e size v n xs) (hT : e ∉ Ts) : w'.ownsRow base e size v n xs := by
  refine ⟨h.1, ?_⟩
  rcases h.2 with h2 | ⟨g, cap, cur, h1, h2, h3, h4⟩
  · exact .inl h2
  · exact .inr ⟨g, cap, cur, h1, h2, k.blk (T := e) h3 hT, h4⟩

section
variable {P : Program} {ops : Array Oper} {Q : Exit → Act → World → Prop}

theorem wp_store_cells {op : Oper} {a : Act} {w : World} {K : Act → World → Prop} {Q : Exit → Act → World → Prop} (ty : TypeId) (x y : Operand) (ho : op.op = .store ty x y)
    (b o : Nat) (v : Value) (hx : a.eval x = .pointer (some ⟨b, o, none⟩)) (hy : a.eval y = v)
    (ht : w.there b o v.cells.size) (hi : (P.info? ty).map (·.size) = some v.cells.size) (h1 : v.cells.all (·.oneCell') = true)
    (h : K (a.put op.dst undef) (w.setCells b o v.cells.toList)) : op.wp P a w K Q := by
  have e : ∀ a : Addr, storeVar ty a v = storeVar ty a (.agg v.cells) := fun _ => rfl
  unfold Oper.wp execOp
  simp only [ho, hx, hy, Instr.storeAt, Instr.sureAddr, Sem.run_bind, Sem.run_pure, Result.andThen_ok, e, run_storeVar_mid w b o ty v.cells ht hi h1]
  exact h

/-- What an operation of such a region is. -/
inductive Fcl where
  /-- a value known beforehand -/
  | val (v : Value) (ds : List Nat)
  /-- a value of which so much is told; 'mine': its memory is new -/
  | any (mine : Bool) (Φ : Value → World → Prop) (ds : List Nat)
  /-- a variable made -/
  | new (T : TypeId) (n : Nat)
  /-- a store into the variable that operation ia made of what operation ic handed back -/
  | put (T : TypeId) (n ia ic : Nat) (ds : List Nat)
  /-- a store into the elder block b (cells cs) from offset o on -/
  | old (b : Nat) (T : TypeId) (cs : Array Value) (o n ic : Nat) (ds : List Nat)
  /-- not done: its guard says no -/
  | skip

def Fcl.deps : Fcl → List Nat
  | .val _ ds => ds
  | .any _ _ ds => ds
  | .put _ _ ia ic ds => ia :: ic :: ds
  | .old _ _ _ _ _ ic ds => ic :: ds
  | _ => []
def Fcl.isSkip : Fcl → Bool
  | .skip => true
  | _ => false
def depsB (ops : Array Oper) (cl : List Fcl) : Bool := (List.range ops.size).all fun i => match ops[i]?, cl[i]? with
  | some o, some c => c.deps.all fun j => edgeB o j || reachB ops 4 o j
  | _, _ => false
def readsF (ops : Array Oper) (cl : List Fcl) : Bool := (List.range ops.size).all fun i => match ops[i]?, cl[i]? with
  | some o, some c => c.isSkip || ((match o.op with | .select _ _ => false | _ => true) && o.op.operands.all fun x => match x with
    | .tmp t => (ops.all fun o' => o'.dst != some t) || o.after.any fun e => Region.binds .any e && ((ops[e.on]?).bind (·.dst) == some t)
    | _ => true)
  | _, _ => false
def guardsF (ops : Array Oper) (cl : List Fcl) : Bool := (List.range ops.size).all fun i => match ops[i]?, cl[i]? with
  | some o, some c => (match o.guard with
    | none => !c.isSkip
    | some (j, want) => ((ops[j]?).bind (·.dst)).isSome && (edgeB o j || reachB ops 4 o j) && (match cl[j]? with
      | some (.val (.bool b) _) => (b == want) == !c.isSkip
      | some .skip => c.isSkip
      | _ => false))
  | _, _ => false
def putsF : List Fcl → List Nat
  | .put _ _ ia _ _ :: cs => ia :: putsF cs
  | _ :: cs => putsF cs
  | [] => []
def oldsF : List Fcl → List Nat
  | .old b _ _ _ _ _ _ :: cs => b :: oldsF cs
  | _ :: cs => oldsF cs
  | [] => []
def newsF (Ts : List TypeId) (cl : List Fcl) : Bool := cl.all fun
  | .new T _ => Ts.contains T
  | .old _ T _ _ _ _ _ => Ts.contains T
  | .put T n ia _ _ => match cl[ia]? with
    | some (.new T' n') => T == T' && n == n'
    | _ => false
  | _ => true

/-- The frame with what is known of it. -/
def freeAct (ops : Array Oper) (a0 : Act) (us : List Value) : Act := ⟨fill a0.tmps (pairs ops fun i => some (us.getD i undef)), a0.defers⟩

/-- What is told of operations ahead. -/
def DepF (cl : List Fcl) (us : List Value) (w : World) : List Nat → Prop
  | [] => True
  | j :: js => (match cl[j]? with
    | some (.any _ Φ _) => Φ (us.getD j undef) w
    | _ => True) ∧ DepF cl us w js

/-- An operation that stores a value of n cells. -/
def StoreF (P : Program) (a : Act) (o : Oper) (p v : Value) (n : Nat) : Prop := ∃ T X Y, o.op = .store T X Y ∧ o.dst = none ∧ a.eval X = p ∧ a.eval Y = v ∧ (P.info? T).map (·.size) = some n
/-- An operation that makes a variable. -/
def AllocF (P : Program) (o : Oper) (T : TypeId) (n : Nat) : Prop := ∃ z : Array Value, z.size = n ∧ ∀ (ρ : Operand → Value) (w : World), (execOp ρ o).run P w = .ok (.value (.pointer (some ⟨w.heap.size, 0, none⟩))) (w.alloc (.cells z T))
/-- A value of n cells. -/
def CellsN (v : Value) (n : Nat) : Prop := v.cells.size = n ∧ v.cells.all (·.oneCell') = true
def StableF (B : Nat) (Ts : List TypeId) : List Fcl → Prop
  | .any _ Φ _ :: cs => (∀ u w w', Φ u w → KeptV B Ts w w' → Φ u w') ∧ StableF B Ts cs
  | _ :: cs => StableF B Ts cs
  | [] => True
def OldsF (B : Nat) (W w0 : World) : List Fcl → Prop
  | .old b T cs o n _ _ :: r => (B ≤ b ∧ b < W.heap.size ∧ Blk w0 b T cs ∧ o + n ≤ cs.size) ∧ OldsF B W w0 r
  | _ :: r => OldsF B W w0 r
  | [] => True
def StepsF (P : Program) (af : List Value → Act) (B : Nat) (Ts : List TypeId) (W : World) (M : Value → Nat → Prop) (cl : List Fcl) : List Value → List Oper → List Fcl → Prop
  | us, o :: os, .val v ds :: cs => (∀ w, Below B W w → KeptV B Ts W w → DepF cl us w ds → o.wp P (af us) w (fun a' w' => a' = (af us).put o.dst v ∧ Below w.heap.size w w') (fun _ _ _ => False)) ∧ StepsF P af B Ts W M cl (us ++ [v]) os cs
  | us, o :: os, .any mine Φ ds :: cs => (∀ w, Below B W w → KeptV B Ts W w → DepF cl us w ds → o.wp P (af us) w (fun a' w' => ∃ u, a' = (af us).put o.dst u ∧ Φ u w' ∧ Below w.heap.size w w' ∧ (mine = true → ∀ g, M u g → w.heap.size ≤ g ∧ g < w'.heap.size)) (fun _ _ _ => False)) ∧ ∀ u, StepsF P af B Ts W M cl (us ++ [u]) os cs
  | us, o :: os, .new T n :: cs => AllocF P o T n ∧ ∀ b, StepsF P af B Ts W M cl (us ++ [.pointer (some ⟨b, 0, none⟩)]) os cs
  | us, o :: os, .put _ n ia ic ds :: cs => StoreF P (af us) o (us.getD ia undef) (us.getD ic undef) n ∧ (∀ w, Below B W w → KeptV B Ts W w → DepF cl us w (ic :: ds) → CellsN (us.getD ic undef) n) ∧ StepsF P af B Ts W M cl (us ++ [undef]) os cs
  | us, o :: os, .old b _ _ k n ic ds :: cs => StoreF P (af us) o (.pointer (some ⟨b, k, none⟩)) (us.getD ic undef) n ∧ (∀ w, Below B W w → KeptV B Ts W w → DepF cl us w (ic :: ds) → CellsN (us.getD ic undef) n) ∧ StepsF P af B Ts W M cl (us ++ [undef]) os cs
  | us, _ :: os, .skip :: cs => StepsF P af B Ts W M cl (us ++ [undef]) os cs
  | _, _, _ => True
/-- What is known in the end. -/
def FactsF (us : List Value) (w : World) : Nat → List Fcl → Prop
  | k, .any _ Φ _ :: cs => Φ (us.getD k undef) w ∧ FactsF us w (k + 1) cs
  | k, .put T _ ia ic _ :: cs => (∃ b, us.getD ia undef = .pointer (some ⟨b, 0, none⟩) ∧ Blk w b T (us.getD ic undef).cells) ∧ FactsF us w (k + 1) cs
  | k, .old b T cs0 o _ ic _ :: cs => Blk w b T (setAll cs0 o (us.getD ic undef).cells.toList) ∧ FactsF us w (k + 1) cs
  | k, _ :: cs => FactsF us w (k + 1) cs
  | _, [] => True
def EndF (W : World) (K : List Value → Prop) : List Value → List Fcl → Prop
  | us, .val v _ :: cs => EndF W K (us ++ [v]) cs
  | us, .any _ _ _ :: cs => ∀ u, EndF W K (us ++ [u]) cs
  | us, .new _ _ :: cs => ∀ b, W.heap.size ≤ b → EndF W K (us ++ [.pointer (some ⟨b, 0, none⟩)]) cs
  | us, .put _ _ _ _ _ :: cs => EndF W K (us ++ [undef]) cs
  | us, .old _ _ _ _ _ _ _ :: cs => EndF W K (us ++ [undef]) cs
  | us, .skip :: cs => EndF W K (us ++ [undef]) cs
  | us, [] => K us
def mineAt (cl : List Fcl) (i : Nat) : Bool := match cl[i]? with
  | some (.any true _ _) => true
  | _ => false
def newAt (cl : List Fcl) (i : Nat) : Bool := match cl[i]? with
  | some (.new _ _) => true
  | _ => false

/-- What the operations hand back that is new memory, apart from one another. -/
def ApartF (M : Value → Nat → Prop) (cl : List Fcl) (us : List Value) : Prop := ∀ i j, mineAt cl i = true → mineAt cl j = true → i ≠ j → ∀ g, M (us.getD i undef) g → ¬ M (us.getD j undef) g
def TopF (M : Value → Nat → Prop) (lo : Nat) (cl : List Fcl) (us : List Value) (w : World) : Prop := ∀ i, mineAt cl i = true → ∀ g, M (us.getD i undef) g → lo ≤ g ∧ g < w.heap.size
def NewF (cl : List Fcl) (us : List Value) : Prop := ∀ i j, newAt cl i = true → newAt cl j = true → i ≠ j → us.getD i undef ≠ us.getD j undef
/-- Whatever order is picked, some operations left out. -/
theorem wpAny_inv2 (I : Array Bool → Act → World → Prop) (hback : (ops.toList.zipIdx.all fun (o, i) => o.after.all fun e => decide (e.on < i)) = true)
    (hstep : ∀ L a w, I L a w → ∀ i o, ops[i]? = some o → L.size = ops.size → L.getD i true = false → (∀ e ∈ o.after, Region.binds .any e = true → L.getD e.on false = true) →
      (Region.wanted o (yielded ops a.tmps) = true → o.wp P a w (I (L.setIfInBounds i true)) Q) ∧ (Region.wanted o (yielded ops a.tmps) = false → I (L.setIfInBounds i true) (a.put o.dst undef) w))
    (hend : ∀ L a w, I L a w → (∀ i, i < ops.size → L.getD i false = true) → Q .normal a w) :
    ∀ (fuel : Nat) (L : Array Bool) (a : Act) (w : World), L.size = ops.size → unlisted ops.size L ≤ fuel → I L a w → wpAny P .any ops Q fuel L a w := by
  have hall : ∀ L : Array Bool, L.size = ops.size → Region.ready .any ops L = [] → ∀ i, i < ops.size → L.getD i false = true := fun L hs hr i => by
    induction i using Nat.strongRecOn with
    | _ i ih =>
      intro hi
      cases hb : L.getD i false with
      | true => rfl
      | false =>
        exfalso
        have hmem : i ∈ Region.ready .any ops L := by
          rw [mem_ready]
          have hl : i < L.size := by omega
          refine ⟨by simp [hl] at hb ⊢; exact hb, ops[i], Array.getElem?_eq_getElem hi, fun e he _ => ?_⟩
          have h1 := List.all_eq_true.1 hback (ops[i], i) (by
            rw [List.mem_zipIdx_iff_getElem?]; simp [hi])
          simp only [Array.all_eq_true_iff_forall_mem] at h1
          have h2 := of_decide_eq_true (h1 e he)
          exact ih e.on h2 (by omega)
        rw [hr] at hmem; cases hmem
  intro fuel
  induction fuel with
  | zero =>
    intro L a w hs hu hI
    have h0 := unlisted_zero (Nat.le_zero.1 hu)
    refine ⟨?_, hend L a w hI h0⟩
    cases hr : Region.ready .any ops L with
    | nil => rfl
    | cons i rest =>
      have hm : i ∈ Region.ready .any ops L := by rw [hr]; simp
      obtain ⟨h1, o, ho, _⟩ := mem_ready.1 hm
      have hi : i < ops.size := (Array.getElem?_eq_some_iff.1 ho).1
      have h2 := h0 i hi
      have hl : i < L.size := by omega
      simp [hl] at h1 h2
      rw [h1] at h2; cases h2
  | succ fuel ih =>
    intro L a w hs hu hI
    refine ⟨fun hr => hend L a w hI (hall L hs hr), fun i hi => ?_⟩
    obtain ⟨h1, o, ho, hp⟩ := mem_ready.1 hi
    have hlt : i < ops.size := (Array.getElem?_eq_some_iff.1 ho).1
    have hnext : ∀ a' w', I (L.setIfInBounds i true) a' w' → wpAny P .any ops Q fuel (L.setIfInBounds i true) a' w' := fun a' w' h' => ih _ a' w' (by simp [hs]) (by
      have := unlisted_set hlt hs h1
      omega) h'
    have hst := hstep L a w hI i o ho hs h1 hp
    unfold wpOp
    simp only [ho]
    cases hw : Region.wanted o (yielded ops a.tmps) with
    | true =>
      rw [if_pos rfl]
      exact .inl (Oper.wp_mono hnext (hst.1 hw))
    | false =>
      rw [if_neg (by simp)]
      exact hnext _ _ (hst.2 hw)

/-- Values that fit what the operations are. -/
def FitsAt (cl : List Fcl) (us : Nat → Value) (j : Nat) : Prop := match cl[j]? with
  | some (.val v _) => us j = v
  | some (.any _ _ _) => True
  | some (.new _ _) => ∃ b, us j = .pointer (some ⟨b, 0, none⟩)
  | _ => us j = undef

structure FI (ops : Array Oper) (cl : List Fcl) (a0 : Act) (B : Nat) (Ts : List TypeId) (W : World) (M : Value → Nat → Prop) (us : Nat → Value) (L : Array Bool) (a : Act) (w : World) : Prop where
  defers : a.defers = a0.defers
  size : a.tmps.size = a0.tmps.size
  out : ∀ t, (∀ (i : Nat) o, ops[i]? = some o → L.getD i false = true → o.dst ≠ some t) → a.tmps[t]? = a0.tmps[t]?
  inn : ∀ (i : Nat) o d, ops[i]? = some o → L.getD i false = true → o.dst = some d → a.tmps[d]? = some (us i)
  fits : ∀ j, FitsAt cl us j
  below : Below B W w
  kept : KeptV B Ts W w
  closed : ∀ (i : Nat) o, ops[i]? = some o → L.getD i false = true → ∀ e ∈ o.after, Region.binds .any e = true → L.getD e.on false = true
  told : ∀ (i : Nat) m Φ ds, cl[i]? = some (.any m Φ ds) → L.getD i false = true → Φ (us i) w
  top : ∀ i, mineAt cl i = true → L.getD i false = true → ∀ g, M (us i) g → W.heap.size ≤ g ∧ g < w.heap.size
  apart : ∀ i j, mineAt cl i = true → mineAt cl j = true → i ≠ j → L.getD i false = true → L.getD j false = true → ∀ g, M (us i) g → ¬ M (us j) g
  new : ∀ (i : Nat) T n, cl[i]? = some (.new T n) → L.getD i false = true → ∃ b, us i = .pointer (some ⟨b, 0, none⟩) ∧ W.heap.size ≤ b ∧ ∃ cs, Blk w b T cs ∧ cs.size = n
  news : ∀ i j, newAt cl i = true → newAt cl j = true → i ≠ j → L.getD i false = true → L.getD j false = true → us i ≠ us j
  put : ∀ (i : Nat) T n ia ic ds, cl[i]? = some (.put T n ia ic ds) → L.getD i false = true → L.getD ia false = true ∧ L.getD ic false = true ∧ ∃ b, us ia = .pointer (some ⟨b, 0, none⟩) ∧ Blk w b T (us ic).cells
  old : ∀ (i : Nat) b T cs o n ic ds, cl[i]? = some (.old b T cs o n ic ds) → (L.getD i false = true → L.getD ic false = true ∧ Blk w b T (setAll cs o (us ic).cells.toList)) ∧ (L.getD i false = false → Blk w b T cs)

theorem mineAt_iff {cl : List Fcl} {i : Nat} : mineAt cl i = true ↔ ∃ Φ ds, cl[i]? = some (.any true Φ ds) := by
  unfold mineAt
  constructor
  · intro h
    split at h
    · rename_i Φ ds e; exact ⟨Φ, ds, e⟩
    · cases h
  · rintro ⟨Φ, ds, e⟩; rw [e]
theorem newAt_iff {cl : List Fcl} {i : Nat} : newAt cl i = true ↔ ∃ T n, cl[i]? = some (.new T n) := by
  unfold newAt
  constructor
  · intro h
    split at h
    · rename_i T n e; exact ⟨T, n, e⟩
    · cases h
  · rintro ⟨T, n, e⟩; rw [e]

def fupd (us : Nat → Value) (i : Nat) (u : Value) : Nat → Value := fun j => if j = i then u else us j
theorem fupd_same (us : Nat → Value) (i : Nat) (u : Value) : fupd us i u i = u := by simp [fupd]
theorem fupd_ne (us : Nat → Value) {i j : Nat} (u : Value) (h : j ≠ i) : fupd us i u j = us j := by simp [fupd, h]

section
variable {cl : List Fcl} {a0 : Act} {B : Nat} {Ts : List TypeId} {W : World} {M : Value → Nat → Prop} {us : Nat → Value} {L : Array Bool} {a : Act} {w : World}
theorem FI.tmps {i : Nat} {o : Oper} (h : FI ops cl a0 B Ts W M us L a w) (hi : ops[i]? = some o) (hL : i < L.size) (hun : L.getD i false = false)
    (hdist : ∀ (i j : Nat) oi oj d, ops[i]? = some oi → ops[j]? = some oj → oi.dst = some d → oj.dst = some d → i = j) (hroom : ∀ (i : Nat) o d, ops[i]? = some o → o.dst = some d → d < a0.tmps.size)
    (v : Value) (us' : Nat → Value) (hus : ∀ j, j ≠ i → us' j = us j) (hv : ∀ d, o.dst = some d → v = us' i) :
    (a.put o.dst v).defers = a0.defers ∧ (a.put o.dst v).tmps.size = a0.tmps.size ∧
    (∀ t, (∀ (k : Nat) ok, ops[k]? = some ok → (L.setIfInBounds i true).getD k false = true → ok.dst ≠ some t) → (a.put o.dst v).tmps[t]? = a0.tmps[t]?) ∧
    (∀ (k : Nat) ok d, ops[k]? = some ok → (L.setIfInBounds i true).getD k false = true → ok.dst = some d → (a.put o.dst v).tmps[d]? = some (us' k)) := by
  refine ⟨?_, ?_, fun t ht => ?_, fun k ok d hk hLk hd => ?_⟩
  · cases hd : o.dst <;> simp [Act.put, h.defers]
  · cases hd : o.dst <;> simp [Act.put, h.size]
  · have h1 := ht i o hi ((getD_set_iff hL).2 (.inl rfl))
    have h2 := h.out t fun k ok hk hLk => ht k ok hk ((getD_set_iff hL).2 (.inr hLk))
    cases hd : o.dst with
    | none => exact h2
    | some d =>
      rw [← h2]
      simp only [Act.put]
      exact Array.getElem?_setIfInBounds_ne (fun e => h1 (by rw [hd, e]))
  · rcases (getD_set_iff hL).1 hLk with rfl | hLk2
    · rw [hi] at hk; injection hk with hk; subst hk
      rw [hd, ← hv d hd]
      have := hroom k o d hi hd
      simp [Act.put, h.size, this]
    · have hne : k ≠ i := fun e => by rw [e, hun] at hLk2; cases hLk2
      rw [hus k hne, ← h.inn k ok d hk hLk2 hd]
      cases hdo : o.dst with
      | none => rfl
      | some d' =>
        simp only [Act.put]
        exact Array.getElem?_setIfInBounds_ne (fun e => hne (hdist k i ok o d hk hi hd (by rw [hdo, e])))
/-- The operands are read as in the frame of the list. -/
theorem FI.eval {i : Nat} {o : Oper} {c : Fcl} (h : FI ops cl a0 B Ts W M us L a w) (hi : ops[i]? = some o) (hc : cl[i]? = some c) (hns : c.isSkip = false) (hreads : readsF ops cl = true) (hdst : (ops.toList.filterMap (·.dst)).Nodup)
    (hback : (ops.toList.zipIdx.all fun (o, i) => o.after.all fun e => decide (e.on < i)) = true)
    (hroom : ∀ (i : Nat) o d, ops[i]? = some o → o.dst = some d → d < a0.tmps.size) (hp : ∀ e ∈ o.after, Region.binds .any e = true → L.getD e.on false = true)
    (l : List Value) (hl : ∀ j, j < i → l.getD j undef = us j) :
    (∀ cs b, o.op ≠ .select cs b) ∧ ∀ x ∈ o.op.operands, a.eval x = (freeAct ops a0 l).eval x := by
  have hlt : i < ops.size := (Array.getElem?_eq_some_iff.1 hi).1
  have h1 := List.all_eq_true.1 hreads i (List.mem_range.2 hlt)
  simp only [hi, hc, hns, Bool.false_or, Bool.and_eq_true] at h1
  obtain ⟨hsel, hops⟩ := h1
  refine ⟨fun cs b e => by rw [e] at hsel; simp at hsel, fun x hx => ?_⟩
  rw [Array.all_eq_true_iff_forall_mem] at hops
  have h2 := hops x hx
  cases x with
  | tmp t =>
    simp only [Bool.or_eq_true] at h2
    rcases h2 with h2 | h2
    · rw [Array.all_eq_true_iff_forall_mem] at h2
      have hno : ∀ (k : Nat) ok, ops[k]? = some ok → ok.dst ≠ some t := fun k ok hk e => by
        have := h2 ok (Array.mem_of_getElem? hk)
        simp [e] at this
      have e1 := h.out t fun k ok hk _ => hno k ok hk
      have e2 := fill_other (pairs ops fun i => some (l.getD i undef)) t a0.tmps fun p hp e => by
        obtain ⟨k, ok, hk, hd, _⟩ := pairs_mem hp
        exact hno k ok hk (by rw [hd, e])
      show a.tmps.getD t undef = (freeAct ops a0 l).tmps.getD t undef
      rw [Array.getD_eq_getD_getElem?, Array.getD_eq_getD_getElem?, e1]
      exact (congrArg (fun x : Option Value => x.getD undef) e2).symm
    · rw [← Array.any_toList, List.any_eq_true] at h2
      obtain ⟨e, he, h3⟩ := h2
      rw [Array.mem_toList_iff] at he
      simp only [Bool.and_eq_true, beq_iff_eq] at h3
      obtain ⟨hb, hd⟩ := h3
      cases hoe : ops[e.on]? with
      | none => simp [hoe] at hd
      | some oe =>
        simp only [hoe, Option.bind_some] at hd
        have e1 := h.inn e.on oe t hoe (hp e he hb) hd
        have e2 := fill_at (pairs ops fun i => some (l.getD i undef)) (pairs_nodup _ hdst) t (l.getD e.on undef) a0.tmps (hroom _ _ _ hoe hd) (pairs_has hoe hd rfl)
        have hlt2 : e.on < i := by
          have h4 := List.all_eq_true.1 hback (o, i) (by rw [List.mem_zipIdx_iff_getElem?]; simpa using hi)
          simp only [Array.all_eq_true_iff_forall_mem] at h4
          exact of_decide_eq_true (h4 e he)
        rw [hl _ hlt2] at e2
        show a.tmps.getD t undef = (freeAct ops a0 l).tmps.getD t undef
        rw [Array.getD_eq_getD_getElem?, Array.getD_eq_getD_getElem?, e1]
        exact (congrArg (fun x : Option Value => x.getD undef) e2).symm
  | _ => rfl
end

/-- The values of the operations ahead, as a list. -/
def upTo (us : Nat → Value) (i : Nat) : List Value := (List.range i).map us
theorem upTo_succ (us : Nat → Value) (i : Nat) : upTo us (i + 1) = upTo us i ++ [us i] := by simp [upTo, List.range_succ]
theorem upTo_get (us : Nat → Value) {i j : Nat} (h : j < i) : (upTo us i).getD j undef = us j := by simp [upTo, List.getD_eq_getElem?_getD, h]
theorem upTo_length (us : Nat → Value) (i : Nat) : (upTo us i).length = i := by simp [upTo]

/-- What the step of one operation asks. -/
def StepF (P : Program) (af : List Value → Act) (B : Nat) (Ts : List TypeId) (W : World) (M : Value → Nat → Prop) (cl : List Fcl) (us : List Value) (o : Oper) : Fcl → Prop
  | .val v ds => ∀ w, Below B W w → KeptV B Ts W w → DepF cl us w ds → o.wp P (af us) w (fun a' w' => a' = (af us).put o.dst v ∧ Below w.heap.size w w') (fun _ _ _ => False)
  | .any mine Φ ds => ∀ w, Below B W w → KeptV B Ts W w → DepF cl us w ds → o.wp P (af us) w (fun a' w' => ∃ u, a' = (af us).put o.dst u ∧ Φ u w' ∧ Below w.heap.size w w' ∧ (mine = true → ∀ g, M u g → w.heap.size ≤ g ∧ g < w'.heap.size)) (fun _ _ _ => False)
  | .new T n => AllocF P o T n
  | .put _ n ia ic ds => StoreF P (af us) o (us.getD ia undef) (us.getD ic undef) n ∧ ∀ w, Below B W w → KeptV B Ts W w → DepF cl us w (ic :: ds) → CellsN (us.getD ic undef) n
  | .old b _ _ k n ic ds => StoreF P (af us) o (.pointer (some ⟨b, k, none⟩)) (us.getD ic undef) n ∧ ∀ w, Below B W w → KeptV B Ts W w → DepF cl us w (ic :: ds) → CellsN (us.getD ic undef) n
  | .skip => True
theorem StepsF.get {af : List Value → Act} {B : Nat} {Ts : List TypeId} {W : World} {M : Value → Nat → Prop} {cl : List Fcl} {us : Nat → Value} : ∀ (os : List Oper) (cs : List Fcl) (k : Nat), (∀ j, cs[j]? = cl[k + j]?) → (∀ j, FitsAt cl us j) → StepsF P af B Ts W M cl (upTo us k) os cs → ∀ (i : Nat) o c, os[i]? = some o → cs[i]? = some c → StepF P af B Ts W M cl (upTo us (k + i)) o c
  | [], _, _, _, _, _, i, o, c, h1, _ => by simp at h1
  | _ :: _, [], _, _, _, _, i, o, c, _, h2 => by simp at h2
  | o' :: os, c' :: cs, k, hcs, hfit, h, i, o, c, h1, h2 => by
    have hk : cl[k]? = some c' := by have := hcs 0; simpa using this.symm
    have hf := hfit k
    unfold FitsAt at hf
    rw [hk] at hf
    have key : StepF P af B Ts W M cl (upTo us k) o' c' ∧ StepsF P af B Ts W M cl (upTo us (k + 1)) os cs := by
      rw [upTo_succ]
      cases c' with
      | val v ds => simp only at hf; rw [hf]; exact h
      | any m Φ ds => exact ⟨h.1, h.2 _⟩
      | new T n => obtain ⟨b, hb⟩ := hf; rw [hb]; exact ⟨h.1, h.2 b⟩
      | put T n ia ic ds => simp only at hf; rw [hf]; exact ⟨⟨h.1, h.2.1⟩, h.2.2⟩
      | old b T cs0 o n ic ds => simp only at hf; rw [hf]; exact ⟨⟨h.1, h.2.1⟩, h.2.2⟩
      | skip => simp only at hf; rw [hf]; exact ⟨trivial, h⟩
    cases i with
    | zero => simp at h1 h2; subst h1 h2; exact key.1
    | succ i =>
      have := StepsF.get os cs (k + 1) (fun j => by have := hcs (j + 1); simpa [Nat.add_assoc, Nat.add_comm 1 j] using this) hfit key.2 i o c (by simpa using h1) (by simpa using h2)
      rwa [show k + 1 + i = k + (i + 1) by omega] at this
theorem EndF.get {W : World} {K : List Value → Prop} {cl : List Fcl} {us : Nat → Value} : ∀ (cs : List Fcl) (k : Nat), (∀ j, cs[j]? = cl[k + j]?) → (∀ j, FitsAt cl us j) → (∀ (j : Nat) T n b, cl[j]? = some (.new T n) → us j = .pointer (some ⟨b, 0, none⟩) → W.heap.size ≤ b) → EndF W K (upTo us k) cs → K (upTo us (k + cs.length))
  | [], k, _, _, _, h => h
  | c :: cs, k, hcs, hfit, hnew, h => by
    have hk : cl[k]? = some c := by have := hcs 0; simpa using this.symm
    have hf := hfit k
    unfold FitsAt at hf
    rw [hk] at hf
    have key : EndF W K (upTo us (k + 1)) cs := by
      rw [upTo_succ]
      cases c with
      | val v ds => simp only at hf; rw [hf]; exact h
      | any m Φ ds => exact h _
      | new T n => obtain ⟨b, hb⟩ := hf; rw [hb]; exact h b (hnew k T n b hk hb)
      | put T n ia ic ds => simp only at hf; rw [hf]; exact h
      | old b T cs0 o n ic ds => simp only at hf; rw [hf]; exact h
      | skip => simp only at hf; rw [hf]; exact h
    have := EndF.get cs (k + 1) (fun j => by have := hcs (j + 1); simpa [Nat.add_assoc, Nat.add_comm 1 j] using this) hfit hnew key
    rwa [show k + 1 + cs.length = k + (c :: cs).length by simp; omega] at this
theorem StableF.get {B : Nat} {Ts : List TypeId} : ∀ (cs : List Fcl), StableF B Ts cs → ∀ (i : Nat) m Φ ds, cs[i]? = some (.any m Φ ds) → ∀ u w w', Φ u w → KeptV B Ts w w' → Φ u w'
  | [], _, i, _, _, _, h => by simp at h
  | c :: cs, hst, i, m, Φ, ds, h => by
    cases i with
    | zero => simp at h; subst h; exact hst.1
    | succ i =>
      have hst' : StableF B Ts cs := by cases c <;> first | exact hst.2 | exact hst
      exact StableF.get cs hst' i m Φ ds (by simpa using h)
theorem OldsF.get {B : Nat} {W w0 : World} : ∀ (cs : List Fcl), OldsF B W w0 cs → ∀ (i : Nat) b T c o n ic ds, cs[i]? = some (.old b T c o n ic ds) → B ≤ b ∧ b < W.heap.size ∧ Blk w0 b T c ∧ o + n ≤ c.size
  | [], _, i, _, _, _, _, _, _, _, h => by simp at h
  | c :: cs, hst, i, b, T, c0, o, n, ic, ds, h => by
    cases i with
    | zero => simp at h; subst h; exact hst.1
    | succ i =>
      have hst' : OldsF B W w0 cs := by cases c <;> first | exact hst.2 | exact hst
      exact OldsF.get cs hst' i b T c0 o n ic ds (by simpa using h)
theorem putsF_mem : ∀ (cl : List Fcl) (k : Nat) T n ia ic ds, cl[k]? = some (.put T n ia ic ds) → ia ∈ putsF cl
  | [], k, _, _, _, _, _, h => by simp at h
  | c :: cl, k, T, n, ia, ic, ds, h => by
    cases k with
    | zero => simp at h; subst h; simp [putsF]
    | succ k =>
      have := putsF_mem cl k T n ia ic ds (by simpa using h)
      cases c <;> simp [putsF, this]
theorem putsF_inj : ∀ (cl : List Fcl), (putsF cl).Nodup → ∀ (i j : Nat) T n ia ic ds T' n' ia' ic' ds', cl[i]? = some (.put T n ia ic ds) → cl[j]? = some (.put T' n' ia' ic' ds') → i ≠ j → ia ≠ ia'
  | [], _, i, _, _, _, _, _, _, _, _, _, _, _, h, _, _ => by simp at h
  | c :: cl, hn, i, j, T, n, ia, ic, ds, T', n', ia', ic', ds', hi, hj, hne => by
    have hn' : (putsF cl).Nodup := by cases c <;> first | exact hn | exact (List.nodup_cons.1 hn).2
    cases i with
    | zero =>
      cases j with
      | zero => exact absurd rfl hne
      | succ j =>
        simp at hi; subst hi
        intro e; subst e
        exact (List.nodup_cons.1 hn).1 (putsF_mem cl j _ _ _ _ _ (by simpa using hj))
    | succ i =>
      cases j with
      | zero =>
        simp at hj; subst hj
        intro e; subst e
        exact (List.nodup_cons.1 hn).1 (putsF_mem cl i _ _ _ _ _ (by simpa using hi))
      | succ j => exact putsF_inj cl hn' i j _ _ _ _ _ _ _ _ _ _ (by simpa using hi) (by simpa using hj) (by omega)
theorem oldsF_mem : ∀ (cl : List Fcl) (k : Nat) b T c o n ic ds, cl[k]? = some (.old b T c o n ic ds) → b ∈ oldsF cl
  | [], k, _, _, _, _, _, _, _, h => by simp at h
  | c :: cl, k, b, T, c0, o, n, ic, ds, h => by
    cases k with
    | zero => simp at h; subst h; simp [oldsF]
    | succ k =>
      have := oldsF_mem cl k b T c0 o n ic ds (by simpa using h)
      cases c <;> simp [oldsF, this]
theorem oldsF_inj : ∀ (cl : List Fcl), (oldsF cl).Nodup → ∀ (i j : Nat) b T c o n ic ds b' T' c' o' n' ic' ds', cl[i]? = some (.old b T c o n ic ds) → cl[j]? = some (.old b' T' c' o' n' ic' ds') → i ≠ j → b ≠ b'
  | [], _, i, _, _, _, _, _, _, _, _, _, _, _, _, _, _, _, h, _, _ => by simp at h
  | c :: cl, hn, i, j, b, T, c0, o, n, ic, ds, b', T', c', o', n', ic', ds', hi, hj, hne => by
    have hn' : (oldsF cl).Nodup := by cases c <;> first | exact hn | exact (List.nodup_cons.1 hn).2
    cases i with
    | zero =>
      cases j with
      | zero => exact absurd rfl hne
      | succ j =>
        simp at hi; subst hi
        intro e; subst e
        exact (List.nodup_cons.1 hn).1 (oldsF_mem cl j _ _ _ _ _ _ _ (by simpa using hj))
    | succ i =>
      cases j with
      | zero =>
        simp at hj; subst hj
        intro e; subst e
        exact (List.nodup_cons.1 hn).1 (oldsF_mem cl i _ _ _ _ _ _ _ (by simpa using hi))
      | succ j => exact oldsF_inj cl hn' i j _ _ _ _ _ _ _ _ _ _ _ _ _ _ (by simpa using hi) (by simpa using hj) (by omega)
theorem DepF.of {cl : List Fcl} {us : List Value} {w : World} : ∀ (ds : List Nat), (∀ j ∈ ds, ∀ m Φ ds', cl[j]? = some (.any m Φ ds') → Φ (us.getD j undef) w) → DepF cl us w ds
  | [], _ => trivial
  | j :: js, h => by
    refine ⟨?_, DepF.of js fun k hk => h k (by simp [hk])⟩
    split
    · rename_i m Φ ds' e; exact h j (by simp) m Φ ds' e
    · trivial
theorem FactsF.of {us : List Value} {w : World} {cl : List Fcl} (h1 : ∀ (i : Nat) m Φ ds, cl[i]? = some (.any m Φ ds) → Φ (us.getD i undef) w) (h2 : ∀ (i : Nat) T n ia ic ds, cl[i]? = some (.put T n ia ic ds) → ∃ b, us.getD ia undef = .pointer (some ⟨b, 0, none⟩) ∧ Blk w b T (us.getD ic undef).cells)
    (h3 : ∀ (i : Nat) b T c o n ic ds, cl[i]? = some (.old b T c o n ic ds) → Blk w b T (setAll c o (us.getD ic undef).cells.toList)) : ∀ (cs : List Fcl) (k : Nat), (∀ j, cs[j]? = cl[k + j]?) → FactsF us w k cs
  | [], _, _ => trivial
  | c :: cs, k, hcs => by
    have hk : cl[k]? = some c := by have := hcs 0; simpa using this.symm
    have ih := FactsF.of h1 h2 h3 cs (k + 1) (fun j => by have := hcs (j + 1); simpa [Nat.add_assoc, Nat.add_comm 1 j] using this)
    cases c with
    | any m Φ ds => exact ⟨h1 k m Φ ds hk, ih⟩
    | put T n ia ic ds => exact ⟨h2 k T n ia ic ds hk, ih⟩
    | old b T c o n ic ds => exact ⟨h3 k b T c o n ic ds hk, ih⟩
    | _ => exact ih

theorem there_at {w : World} {b : Nat} {T : TypeId} {cs : Array Value} (h : Blk w b T cs) {o n : Nat} (hn : o + n ≤ cs.size) : w.there b o n := fun j hj => by
  refine ⟨by rw [h.cell]; simp; omega, h.frozen _⟩
theorem reach_or {L : Array Bool} (hcl : ∀ (i : Nat) o, ops[i]? = some o → L.getD i false = true → ∀ e ∈ o.after, Region.binds .any e = true → L.getD e.on false = true) {k : Nat} {o : Oper} (hp : ∀ e ∈ o.after, Region.binds .any e = true → L.getD e.on false = true)
    (h : (edgeB o k || reachB ops 4 o k) = true) : L.getD k false = true := by
  rw [Bool.or_eq_true] at h
  rcases h with h | h
  · obtain ⟨e, he, hb, rfl⟩ := any_edge h
    exact hp e he hb
  · exact reach_done hcl 4 o hp h

theorem reach_lt (hback : (ops.toList.zipIdx.all fun (o, i) => o.after.all fun e => decide (e.on < i)) = true) {i j : Nat} {o : Oper} (hi : ops[i]? = some o) (h : (edgeB o j || reachB ops 4 o j) = true) : j < i := by
  have hlo : ∀ (k : Nat) o', ops[k]? = some o' → ∀ e ∈ o'.after, e.on < k := fun k o' hk e he => by
    have h7 := List.all_eq_true.1 hback (o', k) (by rw [List.mem_zipIdx_iff_getElem?]; simpa using hk)
    simp only [Array.all_eq_true_iff_forall_mem] at h7
    exact of_decide_eq_true (h7 e he)
  have hreach : ∀ (f : Nat) (o' : Oper) (k : Nat), ops[k]? = some o' → reachB ops f o' j = true → j < k := by
    intro f
    induction f with
    | zero => intro o' k _ h4; simp [reachB] at h4
    | succ f ih =>
      intro o' k hk h4
      unfold reachB at h4
      rw [← Array.any_toList, List.any_eq_true] at h4
      obtain ⟨e, he, h5⟩ := h4
      rw [Array.mem_toList_iff] at he
      simp only [Bool.and_eq_true, Bool.or_eq_true, beq_iff_eq] at h5
      have h6 := hlo k o' hk e he
      rcases h5.2 with h7 | h7
      · omega
      · cases ho' : ops[e.on]? with
        | none => simp [ho'] at h7
        | some o2 =>
          rw [ho'] at h7
          have := ih o2 e.on ho' h7
          omega
  rw [Bool.or_eq_true] at h
  rcases h with h | h
  · obtain ⟨e, he, hb, e2⟩ := any_edge h
    have := hlo i o hi e he
    omega
  · exact hreach 4 o i hi h

/-- THE LAW. -/
theorem wp_region_free {id : Nat} {a0 : Act} {w0 : World} (cl : List Fcl) (B : Nat) (W : World) (Ts : List TypeId) (M : Value → Nat → Prop) (af : List Value → Act) (hm : P.follows .mixedOrders = true) (hB : B ≤ W.heap.size) (hW : Below B W w0) (hK : KeptV B Ts W w0) (hlen : cl.length = ops.size)
    (hback : (ops.toList.zipIdx.all fun (o, i) => o.after.all fun e => decide (e.on < i)) = true) (hguard : guardsF ops cl = true)
    (hdst : nodupB (ops.toList.filterMap (·.dst)) = true) (hroom : (ops.toList.filterMap (·.dst)).all (fun d => decide (d < a0.tmps.size)) = true) (hreads : readsF ops cl = true)
    (hdeps : depsB ops cl = true) (hputs : nodupB (putsF cl) = true) (hnews : newsF Ts cl = true) (haf : af = freeAct ops a0) (holds : (oldsF cl).Nodup)
    (hst : StableF B Ts cl) (hold : OldsF B W w0 cl) (hsteps : StepsF P af B Ts W M cl [] ops.toList cl)
    (hend : EndF W (fun us => ∀ w, Below B W w → KeptV B Ts W w → FactsF us w 0 cl → ApartF M cl us → TopF M W.heap.size cl us w → NewF cl us → Q .normal (af us) w) [] cl) :
    (Code.region id ops true).wp P Q a0 w0 := by
  subst haf
  have hnd := nodupB_spec hdst
  have hdist := dst_inj hnd
  have hroom' : ∀ (i : Nat) o d, ops[i]? = some o → o.dst = some d → d < a0.tmps.size := fun i o d hi hd =>
    of_decide_eq_true (List.all_eq_true.1 hroom d (by rw [List.mem_filterMap]; exact ⟨o, Array.mem_toList_iff.2 (Array.mem_of_getElem? hi), hd⟩))
  have hclAt : ∀ i, i < ops.size → ∃ c, cl[i]? = some c := fun i hi => ⟨cl[i]'(by omega), List.getElem?_eq_getElem (by omega)⟩
  have hinOps : ∀ {i : Nat} {c : Fcl}, cl[i]? = some c → i < ops.size := fun {i c} h => by
    have := (List.getElem?_eq_some_iff.1 h).1
    omega
  have hnewT : ∀ {i : Nat} {T : TypeId} {n : Nat}, cl[i]? = some (.new T n) → T ∈ Ts := fun {i T n} h => by
    have := List.all_eq_true.1 hnews _ (List.mem_of_getElem? h)
    simpa using this
  have holdT : ∀ {i : Nat} {b : Nat} {T : TypeId} {cs : Array Value} {o n ic : Nat} {ds : List Nat}, cl[i]? = some (.old b T cs o n ic ds) → T ∈ Ts := fun {i b T cs o n ic ds} h => by
    have := List.all_eq_true.1 hnews _ (List.mem_of_getElem? h)
    simpa using this
  have hputN : ∀ {i : Nat} {T : TypeId} {n ia ic : Nat} {ds : List Nat}, cl[i]? = some (.put T n ia ic ds) → cl[ia]? = some (.new T n) := fun {i T n ia ic ds} h => by
    have h1 := List.all_eq_true.1 hnews _ (List.mem_of_getElem? h)
    simp only at h1
    split at h1
    · rename_i T' n' e
      simp only [Bool.and_eq_true, beq_iff_eq] at h1
      rw [e, h1.1, h1.2]
    · cases h1
  refine wp_region_any hm (wpAny_inv2 (fun L a w => ∃ us, FI ops cl a0 B Ts W M us L a w) hback ?_ ?_ _ _ _ _ (by simp) ?_ ?_)
  · rintro L a w ⟨us, h⟩ i o hi hs hun hp
    have hlt : i < ops.size := (Array.getElem?_eq_some_iff.1 hi).1
    have hL : i < L.size := by omega
    have hun' : L.getD i false = false := by simp [hL] at hun ⊢; exact hun
    have hkeep : ∀ j, j ≠ i → (L.setIfInBounds i true).getD j false = L.getD j false := fun j hj => getD_set_ne false (Ne.symm hj)
    have hne : ∀ j, L.getD j false = true → j ≠ i := fun j hj e => by rw [e, hun'] at hj; cases hj
    obtain ⟨c, hc⟩ := hclAt i hlt
    have hclosed : ∀ (j : Nat) oj, ops[j]? = some oj → (L.setIfInBounds i true).getD j false = true → ∀ e ∈ oj.after, Region.binds .any e = true → (L.setIfInBounds i true).getD e.on false = true := fun j oj hj hLj e he hb => by
      rw [getD_set_iff hL] at hLj ⊢
      rcases hLj with rfl | hLj
      · rw [hi] at hj; injection hj with hj; subst hj
        exact .inr (hp e he hb)
      · exact .inr (h.closed j oj hj hLj e he hb)
    have hwant : Region.wanted o (yielded ops a.tmps) = !c.isSkip := by
      have h1 := List.all_eq_true.1 hguard i (List.mem_range.2 hlt)
      simp only [hi, hc] at h1
      unfold Region.wanted
      cases hg : o.guard with
      | none => simp only [hg] at h1; exact h1.symm
      | some jw =>
        obtain ⟨j, want⟩ := jw
        simp only [hg, Bool.and_eq_true] at h1
        obtain ⟨⟨hjd, hje⟩, hjc⟩ := h1
        have hLj := reach_or h.closed hp hje
        obtain ⟨d, hd⟩ := Option.isSome_iff_exists.1 hjd
        obtain ⟨oj, hoj, hdj⟩ := bind_dst hd
        have htj := h.inn j oj d hoj hLj hdj
        have hfj := h.fits j
        unfold FitsAt at hfj
        simp only [yielded, hd, Option.bind_some, htj]
        cases hcj : cl[j]? with
        | none => simp [hcj] at hjc
        | some cj =>
          rw [hcj] at hfj hjc
          cases cj with
          | val v ds =>
            simp only at hfj hjc
            rw [hfj]
            cases v <;> simp at hjc ⊢
            rw [← hjc]
          | skip =>
            simp only at hfj hjc
            rw [hfj, hjc]
            simp [undef]
          | _ => simp at hjc
    have hlist : ∀ j, j < i → (upTo us i).getD j undef = us j := fun j hj => upTo_get us hj
    have hstep := StepsF.get ops.toList cl 0 (fun j => by simp) h.fits hsteps i o c (by simpa using hi) hc
    rw [Nat.zero_add] at hstep
    have hdep : ∀ ds, (∀ j ∈ ds, j ∈ c.deps) → DepF cl (upTo us i) w ds := fun ds hds => DepF.of ds fun j hj m Φ ds' hcj => by
      have h1 := List.all_eq_true.1 hdeps i (List.mem_range.2 hlt)
      simp only [hi, hc] at h1
      have h2 := List.all_eq_true.1 h1 j (hds j hj)
      have hLj := reach_or h.closed hp h2
      have hji : j < i := reach_lt hback hi h2
      rw [hlist j hji]
      exact h.told j m Φ ds' hcj hLj
    have hLdep : ∀ j ∈ c.deps, L.getD j false = true := fun j hj => by
      have h1 := List.all_eq_true.1 hdeps i (List.mem_range.2 hlt)
      simp only [hi, hc] at h1
      exact reach_or h.closed hp (List.all_eq_true.1 h1 j hj)
    have hdepLt : ∀ j ∈ c.deps, j < i := fun j hj => by
      have h1 := List.all_eq_true.1 hdeps i (List.mem_range.2 hlt)
      simp only [hi, hc] at h1
      exact reach_lt hback hi (List.all_eq_true.1 h1 j hj)
    -- what stays when memory grows alone and the values of what is done stay
    have grow : ∀ (us' : Nat → Value) (w' : World), Below w.heap.size w w' → (∀ j, j ≠ i → us' j = us j) → (∀ j, FitsAt cl us' j) → ∀ v, (∀ d, o.dst = some d → v = us' i) → (∀ T n, cl[i]? = some (.new T n) → ∃ b, us' i = .pointer (some ⟨b, 0, none⟩) ∧ w.heap.size ≤ b ∧ ∃ cs, Blk w' b T cs ∧ cs.size = n) →
        (∀ m Φ ds, cl[i]? = some (.any m Φ ds) → Φ (us' i) w') → (mineAt cl i = true → ∀ g, M (us' i) g → w.heap.size ≤ g ∧ g < w'.heap.size) → (∀ T n ia ic ds, cl[i]? ≠ some (.put T n ia ic ds)) → (∀ b T cs k n ic ds, cl[i]? ≠ some (.old b T cs k n ic ds)) →
        FI ops cl a0 B Ts W M us' (L.setIfInBounds i true) (a.put o.dst v) w' := fun us' w' hb hus hfit v hv hnew htold hmine hnp hno => by
      obtain ⟨t1, t2, t3, t4⟩ := h.tmps hi hL hun' hdist hroom' v us' hus hv
      refine ⟨t1, t2, t3, t4, hfit, h.below.trans (hb.mono (Nat.le_trans hB h.below.size)), h.kept.trans (KeptV.of_below hb), hclosed, ?_, ?_, ?_, ?_, ?_, ?_, ?_⟩
      · intro k m Φ ds hk hLk
        rcases (getD_set_iff hL).1 hLk with rfl | hLk
        · exact htold m Φ ds hk
        · rw [hus k (hne k hLk)]
          exact StableF.get cl hst k m Φ ds hk _ _ _ (h.told k m Φ ds hk hLk) (KeptV.of_below hb)
      · intro k hk hLk g hg
        rcases (getD_set_iff hL).1 hLk with rfl | hLk
        · have := hmine hk g hg
          have := h.below.size
          omega
        · rw [hus k (hne k hLk)] at hg
          have := h.top k hk hLk g hg
          have := hb.size
          omega
      · intro k j hk hj hkj hLk hLj g hg hg2
        rcases (getD_set_iff hL).1 hLk with rfl | hLk2
        · rcases (getD_set_iff hL).1 hLj with rfl | hLj2
          · exact hkj rfl
          · rw [hus j (hne j hLj2)] at hg2
            have := hmine hk g hg
            have := h.top j hj hLj2 g hg2
            omega
        · rcases (getD_set_iff hL).1 hLj with rfl | hLj2
          · rw [hus k (hne k hLk2)] at hg
            have := hmine hj g hg2
            have := h.top k hk hLk2 g hg
            omega
          · rw [hus k (hne k hLk2)] at hg
            rw [hus j (hne j hLj2)] at hg2
            exact h.apart k j hk hj hkj hLk2 hLj2 g hg hg2
      · intro k T n hk hLk
        rcases (getD_set_iff hL).1 hLk with rfl | hLk
        · obtain ⟨b, h1, h2, h3⟩ := hnew T n hk
          exact ⟨b, h1, Nat.le_trans h.below.size h2, h3⟩
        · rw [hus k (hne k hLk)]
          obtain ⟨b, h1, h2, cs, h3, h4⟩ := h.new k T n hk hLk
          exact ⟨b, h1, h2, cs, h3.below hb h3.lt, h4⟩
      · intro k j hk hj hkj hLk hLj
        have hfar : ∀ m, newAt cl m = true → L.getD m false = true → newAt cl i = true → us m ≠ us' i := fun m hm hLm hin e => by
          obtain ⟨T, n, hm'⟩ := newAt_iff.1 hm
          obtain ⟨T', n', hi'⟩ := newAt_iff.1 hin
          obtain ⟨b, h1, h2, cs, h3, h4⟩ := h.new m T n hm' hLm
          obtain ⟨b', h1', h2', _⟩ := hnew T' n' hi'
          rw [h1, h1'] at e
          injection e with e
          injection e with e
          injection e with e
          have := h3.lt
          omega
        rcases (getD_set_iff hL).1 hLk with rfl | hLk2
        · rcases (getD_set_iff hL).1 hLj with rfl | hLj2
          · exact absurd rfl hkj
          · rw [hus j (hne j hLj2)]
            exact Ne.symm (hfar j hj hLj2 hk)
        · rcases (getD_set_iff hL).1 hLj with rfl | hLj2
          · rw [hus k (hne k hLk2)]
            exact hfar k hk hLk2 hj
          · rw [hus k (hne k hLk2), hus j (hne j hLj2)]
            exact h.news k j hk hj hkj hLk2 hLj2
      · intro k T n ia ic ds hk hLk
        rcases (getD_set_iff hL).1 hLk with rfl | hLk
        · exact absurd hk (hnp _ _ _ _ _)
        · obtain ⟨h1, h2, b, h3, h4⟩ := h.put k T n ia ic ds hk hLk
          exact ⟨(getD_set_iff hL).2 (.inr h1), (getD_set_iff hL).2 (.inr h2), b, by rw [hus ia (hne ia h1)]; exact h3, by rw [hus ic (hne ic h2)]; exact h4.below hb h4.lt⟩
      · intro k b T cs k0 n ic ds hk
        have hki : k ≠ i := fun e => by subst e; exact hno _ _ _ _ _ _ _ hk
        rw [hkeep k hki]
        obtain ⟨h1, h2⟩ := h.old k b T cs k0 n ic ds hk
        refine ⟨fun hLk => ?_, fun hLk => ?_⟩
        · obtain ⟨h3, h4⟩ := h1 hLk
          exact ⟨(getD_set_iff hL).2 (.inr h3), by rw [hus ic (hne ic h3)]; exact h4.below hb h4.lt⟩
        · exact (h2 hLk).below hb (h2 hLk).lt
    have fitsSame : ∀ u, (∃ m Φ ds, c = .any m Φ ds) ∨ (∃ T n, c = .new T n ∧ ∃ b, u = .pointer (some ⟨b, 0, none⟩)) → ∀ j, FitsAt cl (fupd us i u) j := fun u hu j => by
      by_cases e : j = i
      · subst e
        unfold FitsAt
        rw [hc]
        rcases hu with ⟨m, Φ, ds, rfl⟩ | ⟨T, n, rfl, b, rfl⟩
        · trivial
        · exact ⟨b, fupd_same _ _ _⟩
      · have := h.fits j
        unfold FitsAt at this ⊢
        rw [fupd_ne _ _ e]
        exact this
    have hfi := h.fits i
    unfold FitsAt at hfi
    rw [hc] at hfi
    refine ⟨fun hw => ?_, fun hw => ?_⟩
    · rw [hwant] at hw
      have hns : c.isSkip = false := by simpa using hw
      obtain ⟨hsel, hev⟩ := h.eval hi hc hns hreads hnd hback hroom' hp (upTo us i) hlist
      cases c with
      | skip => cases hns
      | val v ds =>
        have h1 := Oper.wp_mono (K' := fun a' w' => ∃ u, a' = (freeAct ops a0 (upTo us i)).put o.dst u ∧ ((∀ d, o.dst = some d → u = v) ∧ Below w.heap.size w w')) (fun a' w' ⟨e, hb⟩ => ⟨v, e, fun _ _ => rfl, hb⟩) (hstep w h.below h.kept (hdep ds fun j hj => hj))
        unfold Oper.wp at h1
        rw [← execOp_congr o hsel hev] at h1
        have h2 := upon_step (a2 := a) (Q := Q) (by intro d hd; simp only [freeAct, fill_size]; exact hroom' i o d hi hd) h1
        refine Oper.wp_mono ?_ h2
        rintro a' w' ⟨u, rfl, hu, hb⟩
        have huv : a.put o.dst u = a.put o.dst v := by
          cases hd : o.dst with
          | none => rfl
          | some d => rw [hu d hd]
        rw [huv]
        simp only at hfi
        exact ⟨us, grow us w' hb (fun _ _ => rfl) h.fits v (fun _ _ => hfi.symm) (fun T n e => by rw [hc] at e; cases e) (fun m Φ ds e => by rw [hc] at e; cases e) (fun hmi => by obtain ⟨Φ, ds, e⟩ := mineAt_iff.1 hmi; rw [hc] at e; cases e) (fun _ _ _ _ _ e => by rw [hc] at e; cases e) (fun _ _ _ _ _ _ _ e => by rw [hc] at e; cases e)⟩
      | any m Φ ds =>
        have h1 := hstep w h.below h.kept (hdep ds fun j hj => hj)
        unfold Oper.wp at h1
        rw [← execOp_congr o hsel hev] at h1
        have h2 := upon_step (a2 := a) (Q := Q) (by intro d hd; simp only [freeAct, fill_size]; exact hroom' i o d hi hd) h1
        refine Oper.wp_mono ?_ h2
        rintro a' w' ⟨u, rfl, hΦ, hb, hmine⟩
        exact ⟨fupd us i u, grow (fupd us i u) w' hb (fun j hj => fupd_ne _ _ hj) (fitsSame u (.inl ⟨m, Φ, ds, rfl⟩)) u (fun _ _ => (fupd_same _ _ _).symm) (fun T n e => by rw [hc] at e; cases e)
          (fun m' Φ' ds' e => by rw [hc] at e; injection e with e; injection e with e1 e2 e3; rw [fupd_same, ← e2]; exact hΦ)
          (fun hmi => by obtain ⟨Φ', ds', e⟩ := mineAt_iff.1 hmi; rw [hc] at e; injection e with e; injection e with e1 e2 e3; rw [fupd_same]; exact hmine e1) (fun _ _ _ _ _ e => by rw [hc] at e; cases e) (fun _ _ _ _ _ _ _ e => by rw [hc] at e; cases e)⟩
      | new T n =>
        obtain ⟨z, hz, hrun⟩ := hstep
        unfold Oper.wp
        rw [hrun, Oper.upon_value]
        exact ⟨fupd us i (.pointer (some ⟨w.heap.size, 0, none⟩)), grow (fupd us i (.pointer (some ⟨w.heap.size, 0, none⟩))) (w.alloc (.cells z T)) ((Below.refl _ _).alloc (Nat.le_refl _) _) (fun j hj => fupd_ne _ _ hj) (fitsSame _ (.inr ⟨T, n, rfl, _, rfl⟩)) _ (fun _ _ => (fupd_same _ _ _).symm)
          (fun T' n' e => by rw [hc] at e; injection e with e; injection e with e1 e2; subst e1 e2; exact ⟨_, fupd_same _ _ _, Nat.le_refl _, z, Blk.new w T z, hz⟩)
          (fun m Φ ds e => by rw [hc] at e; cases e) (fun hmi => by obtain ⟨Φ, ds, e⟩ := mineAt_iff.1 hmi; rw [hc] at e; cases e) (fun _ _ _ _ _ e => by rw [hc] at e; cases e) (fun _ _ _ _ _ _ _ e => by rw [hc] at e; cases e)⟩
      | put T n ia ic ds =>
        obtain ⟨⟨T1, X, Y, hop, hdo, hX, hY, hinfo⟩, hcell⟩ := hstep
        obtain ⟨hsz, hone⟩ := hcell w h.below h.kept (hdep (ic :: ds) fun j hj => by simp only [Fcl.deps]; exact List.mem_cons_of_mem _ hj)
        have hLa := hLdep ia (by simp [Fcl.deps])
        have hLc := hLdep ic (by simp [Fcl.deps])
        have hia := hdepLt ia (by simp [Fcl.deps])
        have hic := hdepLt ic (by simp [Fcl.deps])
        have hnewA := hputN hc
        obtain ⟨b, hb1, hb2, cs, hb3, hb4⟩ := h.new ia T n hnewA hLa
        rw [hlist ic hic] at hY hsz hone
        rw [hlist ia hia, hb1] at hX
        have eX := hev X (by rw [hop]; simp [Op.operands])
        have eY := hev Y (by rw [hop]; simp [Op.operands])
        refine wp_store_cells T1 X Y hop b 0 (us ic) (by rw [eX]; exact hX) (by rw [eY]; exact hY) (there_at hb3 (by omega)) (by rw [hsz]; exact hinfo) hone ?_
        obtain ⟨t1, t2, t3, t4⟩ := h.tmps hi hL hun' hdist hroom' undef us (fun _ _ => rfl) (fun d hd => by rw [hdo] at hd; cases hd)
        have hTs := hnewT hnewA
        have hBb := Nat.le_trans hB hb2
        have hblt := hb3.lt
        have hoth : ∀ k b', newAt cl k = true → L.getD k false = true → k ≠ ia → us k = .pointer (some ⟨b', 0, none⟩) → b' ≠ b := fun k b' hk hLk hka e e2 => by
          subst e2
          exact h.news k ia hk (newAt_iff.2 ⟨T, n, hnewA⟩) hka hLk hLa (by rw [e, hb1])
        refine ⟨us, t1, t2, t3, t4, h.fits, below_setCells hBb _ _ _ h.below, h.kept.trans (KeptV.setCells hb3 hTs hBb _ _), hclosed, ?_, ?_, ?_, ?_, ?_, ?_, ?_⟩
        · intro k m Φ ds' hk hLk
          rcases (getD_set_iff hL).1 hLk with rfl | hLk
          · rw [hc] at hk; cases hk
          · exact StableF.get cl hst k m Φ ds' hk _ _ _ (h.told k m Φ ds' hk hLk) (KeptV.setCells hb3 hTs hBb _ _)
        · intro k hk hLk g hg
          rcases (getD_set_iff hL).1 hLk with rfl | hLk
          · obtain ⟨_, _, e⟩ := mineAt_iff.1 hk; rw [hc] at e; cases e
          · rw [setCells_size]; exact h.top k hk hLk g hg
        · intro k j hk hj hkj hLk hLj
          rcases (getD_set_iff hL).1 hLk with rfl | hLk
          · obtain ⟨_, _, e⟩ := mineAt_iff.1 hk; rw [hc] at e; cases e
          · rcases (getD_set_iff hL).1 hLj with rfl | hLj
            · obtain ⟨_, _, e⟩ := mineAt_iff.1 hj; rw [hc] at e; cases e
            · exact h.apart k j hk hj hkj hLk hLj
        · intro k T' n' hk hLk
          rcases (getD_set_iff hL).1 hLk with rfl | hLk
          · rw [hc] at hk; cases hk
          · obtain ⟨b', g1, g2, cs', g3, g4⟩ := h.new k T' n' hk hLk
            by_cases e : k = ia
            · subst e
              rw [hb1] at g1
              injection g1 with g1
              injection g1 with g1
              injection g1 with g1
              subst g1
              exact ⟨_, hb1, g2, _, g3.setCells _ _ _ _, by rw [setAll_size, g4]⟩
            · exact ⟨b', g1, g2, cs', g3.setCells_far (hoth k b' (newAt_iff.2 ⟨_, _, hk⟩) hLk e g1) _ _ _, g4⟩
        · intro k j hk hj hkj hLk hLj
          rcases (getD_set_iff hL).1 hLk with rfl | hLk
          · obtain ⟨_, _, e⟩ := newAt_iff.1 hk; rw [hc] at e; cases e
          · rcases (getD_set_iff hL).1 hLj with rfl | hLj
            · obtain ⟨_, _, e⟩ := newAt_iff.1 hj; rw [hc] at e; cases e
            · exact h.news k j hk hj hkj hLk hLj
        · intro k T' n' ja jc ds' hk hLk
          rcases (getD_set_iff hL).1 hLk with rfl | hLk
          · rw [hc] at hk; injection hk with hk; injection hk with e1 e2 e3 e4 e5
            subst e1 e2 e3 e4
            refine ⟨(getD_set_iff hL).2 (.inr hLa), (getD_set_iff hL).2 (.inr hLc), b, hb1, ?_⟩
            have := hb3.setCells (us ic).cells.toList 0
            rwa [setAll_all _ _ (by omega)] at this
          · obtain ⟨g1, g2, b', g3, g4⟩ := h.put k T' n' ja jc ds' hk hLk
            have hka : ja ≠ ia := putsF_inj cl (nodupB_spec hputs) k i _ _ _ _ _ _ _ _ _ _ hk hc (fun e => hne k hLk e)
            exact ⟨(getD_set_iff hL).2 (.inr g1), (getD_set_iff hL).2 (.inr g2), b', g3, g4.setCells_far (hoth ja b' (newAt_iff.2 ⟨_, _, hputN hk⟩) g1 hka g3) _ _ _⟩
        · intro k b' T' cs' k0 n' jc ds' hk
          have hki : k ≠ i := fun e => by subst e; rw [hc] at hk; cases hk
          rw [hkeep k hki]
          obtain ⟨g1, g2⟩ := h.old k b' T' cs' k0 n' jc ds' hk
          have hb' := (OldsF.get cl hold k b' T' cs' k0 n' jc ds' hk).2.1
          refine ⟨fun hLk => ?_, fun hLk => (g2 hLk).setCells_far (by omega) _ _ _⟩
          obtain ⟨g3, g4⟩ := g1 hLk
          exact ⟨(getD_set_iff hL).2 (.inr g3), g4.setCells_far (by omega) _ _ _⟩
      | old b T cs k0 n ic ds =>
        obtain ⟨⟨T1, X, Y, hop, hdo, hX, hY, hinfo⟩, hcell⟩ := hstep
        obtain ⟨hsz, hone⟩ := hcell w h.below h.kept (hdep (ic :: ds) fun j hj => hj)
        have hLc := hLdep ic (by simp [Fcl.deps])
        have hic := hdepLt ic (by simp [Fcl.deps])
        obtain ⟨hb1, hb2, _, hb4⟩ := OldsF.get cl hold i b T cs k0 n ic ds hc
        have hb3 := (h.old i b T cs k0 n ic ds hc).2 hun'
        rw [hlist ic hic] at hY hsz hone
        have eX := hev X (by rw [hop]; simp [Op.operands])
        have eY := hev Y (by rw [hop]; simp [Op.operands])
        refine wp_store_cells T1 X Y hop b k0 (us ic) (by rw [eX]; exact hX) (by rw [eY]; exact hY) (there_at hb3 (by omega)) (by rw [hsz]; exact hinfo) hone ?_
        obtain ⟨t1, t2, t3, t4⟩ := h.tmps hi hL hun' hdist hroom' undef us (fun _ _ => rfl) (fun d hd => by rw [hdo] at hd; cases hd)
        have hTs := holdT hc
        refine ⟨us, t1, t2, t3, t4, h.fits, below_setCells hb1 _ _ _ h.below, h.kept.trans (KeptV.setCells hb3 hTs hb1 _ _), hclosed, ?_, ?_, ?_, ?_, ?_, ?_, ?_⟩
        · intro k m Φ ds' hk hLk
          rcases (getD_set_iff hL).1 hLk with rfl | hLk
          · rw [hc] at hk; cases hk
          · exact StableF.get cl hst k m Φ ds' hk _ _ _ (h.told k m Φ ds' hk hLk) (KeptV.setCells hb3 hTs hb1 _ _)
        · intro k hk hLk g hg
          rcases (getD_set_iff hL).1 hLk with rfl | hLk
          · obtain ⟨_, _, e⟩ := mineAt_iff.1 hk; rw [hc] at e; cases e
          · rw [setCells_size]; exact h.top k hk hLk g hg
        · intro k j hk hj hkj hLk hLj
          rcases (getD_set_iff hL).1 hLk with rfl | hLk
          · obtain ⟨_, _, e⟩ := mineAt_iff.1 hk; rw [hc] at e; cases e
          · rcases (getD_set_iff hL).1 hLj with rfl | hLj
            · obtain ⟨_, _, e⟩ := mineAt_iff.1 hj; rw [hc] at e; cases e
            · exact h.apart k j hk hj hkj hLk hLj
        · intro k T' n' hk hLk
          rcases (getD_set_iff hL).1 hLk with rfl | hLk
          · rw [hc] at hk; cases hk
          · obtain ⟨b', g1, g2, cs', g3, g4⟩ := h.new k T' n' hk hLk
            exact ⟨b', g1, g2, cs', g3.setCells_far (by omega) _ _ _, g4⟩
        · intro k j hk hj hkj hLk hLj
          rcases (getD_set_iff hL).1 hLk with rfl | hLk
          · obtain ⟨_, _, e⟩ := newAt_iff.1 hk; rw [hc] at e; cases e
          · rcases (getD_set_iff hL).1 hLj with rfl | hLj
            · obtain ⟨_, _, e⟩ := newAt_iff.1 hj; rw [hc] at e; cases e
            · exact h.news k j hk hj hkj hLk hLj
        · intro k T' n' ja jc ds' hk hLk
          rcases (getD_set_iff hL).1 hLk with rfl | hLk
          · rw [hc] at hk; cases hk
          · obtain ⟨g1, g2, b', g3, g4⟩ := h.put k T' n' ja jc ds' hk hLk
            obtain ⟨b2, g5, g6, _⟩ := h.new ja T' n' (hputN hk) g1
            rw [g3] at g5
            injection g5 with g5
            injection g5 with g5
            injection g5 with g5
            exact ⟨(getD_set_iff hL).2 (.inr g1), (getD_set_iff hL).2 (.inr g2), b', g3, g4.setCells_far (by omega) _ _ _⟩
        · intro k b' T' cs' k1 n' jc ds' hk
          obtain ⟨g1, g2⟩ := h.old k b' T' cs' k1 n' jc ds' hk
          by_cases hki : k = i
          · subst hki
            rw [hc] at hk; injection hk with hk; injection hk with e1 e2 e3 e4 e5 e6 e7
            subst e1 e2 e3 e4 e6
            refine ⟨fun _ => ⟨(getD_set_iff hL).2 (.inr hLc), hb3.setCells _ _ _ _⟩, fun hLk => ?_⟩
            rw [(getD_set_iff hL).2 (.inl rfl)] at hLk; cases hLk
          · rw [hkeep k hki]
            have hbb : b' ≠ b := oldsF_inj cl holds k i _ _ _ _ _ _ _ _ _ _ _ _ _ _ hk hc hki
            refine ⟨fun hLk => ?_, fun hLk => (g2 hLk).setCells_far hbb _ _ _⟩
            obtain ⟨g3, g4⟩ := g1 hLk
            exact ⟨(getD_set_iff hL).2 (.inr g3), g4.setCells_far hbb _ _ _⟩
    · rw [hwant] at hw
      have hsk : c.isSkip = true := by simpa using hw
      cases c with
      | skip =>
        simp only at hfi
        exact ⟨us, grow us w (Below.refl _ _) (fun _ _ => rfl) h.fits undef (fun _ _ => hfi.symm) (fun T n e => by rw [hc] at e; cases e) (fun m Φ ds e => by rw [hc] at e; cases e) (fun hmi => by obtain ⟨Φ, ds, e⟩ := mineAt_iff.1 hmi; rw [hc] at e; cases e) (fun _ _ _ _ _ e => by rw [hc] at e; cases e) (fun _ _ _ _ _ _ _ e => by rw [hc] at e; cases e)⟩
      | _ => cases hsk
  · rintro L a w ⟨us, h⟩ hdone
    have hact : a = freeAct ops a0 (upTo us cl.length) := by
      obtain ⟨t, d⟩ := a
      have h1 := h.defers
      simp only at h1
      subst h1
      unfold freeAct
      have hget : ∀ (i : Nat) (o : Oper), ops[i]? = some o → (upTo us cl.length).getD i undef = us i := fun i o hi => upTo_get us (by have := (Array.getElem?_eq_some_iff.1 hi).1; omega)
      have h2 := fill_unique (pairs ops fun i => some ((upTo us cl.length).getD i undef)) (pairs_nodup _ hnd) a0.tmps t h.size (fun d hd => ?_) (fun p hp _ => ?_)
      · rw [← h2]
      · refine h.out d fun i o hi _ hd2 => ?_
        exact hd _ (pairs_has hi hd2 rfl) rfl
      · obtain ⟨i, o, hi, hd, hv⟩ := pairs_mem hp
        have := h.inn i o p.1 hi (hdone i (Array.getElem?_eq_some_iff.1 hi).1) hd
        rw [this, ← hv, hget i o hi]
    have hin : ∀ {i : Nat} {c : Fcl}, cl[i]? = some c → L.getD i false = true := fun hc => hdone _ (hinOps hc)
    have hg : ∀ {i : Nat} {c : Fcl}, cl[i]? = some c → (upTo us cl.length).getD i undef = us i := fun {i c} hc => upTo_get us (List.getElem?_eq_some_iff.1 hc).1
    have hdepIn : ∀ {i : Nat} {c : Fcl}, cl[i]? = some c → ∀ j ∈ c.deps, j < cl.length := fun {i c} hc j hj => by
      have hi := hinOps hc
      have h1 := List.all_eq_true.1 hdeps i (List.mem_range.2 hi)
      obtain ⟨o, ho⟩ : ∃ o, ops[i]? = some o := ⟨ops[i], Array.getElem?_eq_getElem hi⟩
      simp only [ho, hc] at h1
      have h3 := reach_lt hback ho (List.all_eq_true.1 h1 j hj)
      omega
    have hend' := EndF.get cl 0 (fun j => by simp) h.fits (fun j T n b hj hb => by
      obtain ⟨b', h1, h2, _⟩ := h.new j T n hj (hin hj)
      rw [h1] at hb
      injection hb with hb
      injection hb with hb
      injection hb with hb
      omega) hend
    rw [Nat.zero_add] at hend'
    rw [hact]
    refine hend' w h.below h.kept (FactsF.of (cl := cl) ?_ ?_ ?_ cl 0 (fun j => by simp)) ?_ ?_ ?_
    · intro i m Φ ds hc
      rw [hg hc]; exact h.told i m Φ ds hc (hin hc)
    · intro i T n ia ic ds hc
      obtain ⟨h1, h2, b, h3, h4⟩ := h.put i T n ia ic ds hc (hin hc)
      rw [upTo_get us (hdepIn hc ia (by simp [Fcl.deps])), upTo_get us (hdepIn hc ic (by simp [Fcl.deps]))]
      exact ⟨b, h3, h4⟩
    · intro i b T cs o n ic ds hc
      obtain ⟨h1, h2⟩ := (h.old i b T cs o n ic ds hc).1 (hin hc)
      rw [upTo_get us (hdepIn hc ic (by simp [Fcl.deps]))]
      exact h2
    · intro i j hi hj hne g
      obtain ⟨_, _, ei⟩ := mineAt_iff.1 hi
      obtain ⟨_, _, ej⟩ := mineAt_iff.1 hj
      rw [hg ei, hg ej]
      exact h.apart i j hi hj hne (hin ei) (hin ej) g
    · intro i hi g
      obtain ⟨_, _, ei⟩ := mineAt_iff.1 hi
      rw [hg ei]
      exact h.top i hi (hin ei) g
    · intro i j hi hj hne
      obtain ⟨_, _, ei⟩ := newAt_iff.1 hi
      obtain ⟨_, _, ej⟩ := newAt_iff.1 hj
      rw [hg ei, hg ej]
      exact h.news i j hi hj hne (hin ei) (hin ej)
  · have : (List.filter (fun i => !(Array.replicate ops.size false).getD i false) (List.range ops.size)).length ≤ (List.range ops.size).length := List.length_filter_le _ _
    unfold unlisted
    simpa using this
  · have hno : ∀ i, (Array.replicate ops.size false).getD i false = true → False := fun i hL => by
      simp at hL; rcases Nat.lt_or_ge i ops.size with h | h <;> simp [h] at hL
    let us : Nat → Value := fun j => match cl[j]? with
      | some (.val v _) => v
      | some (.new _ _) => .pointer (some ⟨0, 0, none⟩)
      | _ => undef
    refine ⟨us, rfl, rfl, fun _ _ => rfl, fun i o d _ hL _ => (hno i hL).elim, fun j => ?_, hW.drew, hK.drew, fun i o _ hL => (hno i hL).elim, fun i _ _ _ _ hL => (hno i hL).elim, fun i _ hL => (hno i hL).elim, fun i _ _ _ _ hL => (hno i hL).elim, fun i _ _ _ hL => (hno i hL).elim, fun i _ _ _ _ hL => (hno i hL).elim, fun i _ _ _ _ _ _ hL => (hno i hL).elim, fun i b T cs o n ic ds hc => ⟨fun hL => (hno i hL).elim, fun _ => (OldsF.get cl hold i b T cs o n ic ds hc).2.2.1.drew⟩⟩
    unfold FitsAt
    cases hj : cl[j]? with
    | none => simp [us, hj]
    | some c => cases c <;> simp [us, hj]
end
end Go.Proofs.YtpcdiijmhllejaaDoor

/- Numbers by their limbs of 32 bits, the lowest first: plain, no program in sight. -/
namespace Go.Proofs.YtpcdiijmhllejaaDoor

/-- What limbs count. -/
def val : List Nat → Nat
  | [] => 0
  | x :: xs => x + 4294967296 * val xs
/-- Each is a limb. -/
def Limbs (xs : List Nat) : Prop := ∀ x ∈ xs, x < 4294967296

def natLF : Nat → Nat → List Nat
  | 0, _ => []
  | f + 1, n => if n = 0 then [] else n % 4294967296 :: natLF f (n / 4294967296)
/-- The limbs of a number, without noughts at the end. -/
def natL (n : Nat) : List Nat := natLF n n

theorem natLF_fuel : ∀ (f g n : Nat), n ≤ f → n ≤ g → natLF f n = natLF g n
  | 0, 0, _, _, _ => rfl
  | 0, g + 1, n, h, _ => by
    obtain rfl : n = 0 := by omega
    simp [natLF]
  | f + 1, 0, n, _, h => by
    obtain rfl : n = 0 := by omega
    simp [natLF]
  | f + 1, g + 1, n, h1, h2 => by
    simp only [natLF]
    split
    · rfl
    · rw [natLF_fuel f g _ (by omega) (by omega)]
theorem natL_zero : natL 0 = [] := rfl
theorem natL_pos {n : Nat} (h : n ≠ 0) : natL n = n % 4294967296 :: natL (n / 4294967296) := by
  unfold natL
  obtain ⟨m, rfl⟩ : ∃ m, n = m + 1 := ⟨n - 1, by omega⟩
  conv => lhs; rw [natLF, if_neg h]
  rw [natLF_fuel m _ _ (by omega) (Nat.le_refl _)]
theorem natL_ind {P : Nat → Prop} (h0 : P 0) (h1 : ∀ n, n ≠ 0 → P (n / 4294967296) → P n) (n : Nat) : P n := by
  induction n using Nat.strongRecOn with
  | _ n ih =>
    by_cases h : n = 0
    · subst h; exact h0
    · exact h1 n h (ih _ (by omega))
theorem val_natL (n : Nat) : val (natL n) = n := by
  induction n using natL_ind with
  | h0 => rfl
  | h1 n h ih => rw [natL_pos h, val, ih]; omega
theorem limbs_natL (n : Nat) : Limbs (natL n) := by
  induction n using natL_ind with
  | h0 => intro x hx; simp [natL_zero] at hx
  | h1 n h ih =>
    rw [natL_pos h]
    intro x hx
    simp only [List.mem_cons] at hx
    rcases hx with rfl | hx
    · omega
    · exact ih x hx
theorem natL_eq_nil {n : Nat} : natL n = [] ↔ n = 0 := by
  constructor
  · intro h
    by_cases hn : n = 0
    · exact hn
    · rw [natL_pos hn] at h; cases h
  · rintro rfl; rfl
theorem limbs_cons {x : Nat} {xs : List Nat} : Limbs (x :: xs) ↔ x < 4294967296 ∧ Limbs xs := by
  simp [Limbs]
theorem limbs_append {xs ys : List Nat} : Limbs (xs ++ ys) ↔ Limbs xs ∧ Limbs ys := by
  simp only [Limbs, List.mem_append]
  exact ⟨fun h => ⟨fun x hx => h x (.inl hx), fun x hx => h x (.inr hx)⟩, fun h x hx => hx.elim (h.1 x) (h.2 x)⟩
theorem limbs_take {xs : List Nat} (h : Limbs xs) (n : Nat) : Limbs (xs.take n) := fun x hx => h x (List.mem_of_mem_take hx)
theorem limbs_drop {xs : List Nat} (h : Limbs xs) (n : Nat) : Limbs (xs.drop n) := fun x hx => h x (List.mem_of_mem_drop hx)
theorem limbs_get {xs : List Nat} (h : Limbs xs) {k : Nat} (hk : k < xs.length) : xs[k] < 4294967296 := h _ (List.getElem_mem hk)
theorem val_append (xs ys : List Nat) : val (xs ++ ys) = val xs + 4294967296 ^ xs.length * val ys := by
  induction xs with
  | nil => simp [val]
  | cons x xs ih => simp only [List.cons_append, val, ih, List.length_cons, Nat.pow_succ]; grind
theorem val_lt {xs : List Nat} (h : Limbs xs) : val xs < 4294967296 ^ xs.length := by
  induction xs with
  | nil => simp [val]
  | cons x xs ih =>
    obtain ⟨h1, h2⟩ := limbs_cons.1 h
    have := ih h2
    simp only [val, List.length_cons, Nat.pow_succ]
    have e : 4294967296 ^ xs.length * 4294967296 = 4294967296 * 4294967296 ^ xs.length := Nat.mul_comm _ _
    omega
/-- The last limb, if there is one, is not 0. -/
def Canon (xs : List Nat) : Prop := ∀ x, xs.getLast? = some x → x ≠ 0
theorem canon_natL (n : Nat) : Canon (natL n) := by
  induction n using natL_ind with
  | h0 => intro x hx; simp [natL_zero] at hx
  | h1 n h ih =>
    rw [natL_pos h]
    intro x hx
    by_cases hq : n / 4294967296 = 0
    · rw [hq, natL_zero] at hx
      simp at hx; omega
    · rw [natL_pos hq] at ih hx
      rw [List.getLast?_cons_cons] at hx
      exact ih x hx
theorem natL_val {xs : List Nat} (hl : Limbs xs) (hc : Canon xs) : natL (val xs) = xs := by
  induction xs with
  | nil => rfl
  | cons x xs ih =>
    obtain ⟨h1, h2⟩ := limbs_cons.1 hl
    have hc2 : Canon xs := by
      intro y hy
      cases xs with
      | nil => simp at hy
      | cons z zs => exact hc y (by rw [List.getLast?_cons_cons]; exact hy)
    have hne : val (x :: xs) ≠ 0 := by
      intro h0
      simp only [val] at h0
      have hx : x = 0 := by omega
      have hv : val xs = 0 := by omega
      have : xs = [] := by rw [← ih h2 hc2, hv]; rfl
      subst this
      exact hc x (by simp) hx
    rw [natL_pos hne]
    simp only [val]
    rw [show (x + 4294967296 * val xs) % 4294967296 = x by omega, show (x + 4294967296 * val xs) / 4294967296 = val xs by omega, ih h2 hc2]
theorem natL_length_le {n k : Nat} : (natL n).length ≤ k ↔ n < 4294967296 ^ k := by
  induction n using natL_ind generalizing k with
  | h0 => simp [natL_zero]; exact Nat.pow_pos (by omega)
  | h1 n h ih =>
    rw [natL_pos h]
    cases k with
    | zero => simp; omega
    | succ k =>
      simp only [List.length_cons, Nat.add_le_add_iff_right, ih, Nat.pow_succ]
      rw [Nat.div_lt_iff_lt_mul (by omega)]
theorem canon_of_get {xs : List Nat} {k : Nat} (hk : k < xs.length) (h : xs[k] ≠ 0) : Canon (xs.take (k + 1)) := by
  intro x hx
  rw [List.take_succ_eq_append_getElem hk, List.getLast?_concat] at hx
  injection hx with hx
  rw [← hx]; exact h
theorem natL_take_nought {xs : List Nat} {k : Nat} (hk : k < xs.length) (h : xs[k] = 0) : val (xs.take (k + 1)) = val (xs.take k) := by
  rw [List.take_succ_eq_append_getElem hk, val_append, h]; simp [val]
/-- Limbs without noughts at the end are a beginning of them. -/
theorem natL_take {xs : List Nat} (h : Limbs xs) : natL (val xs) = xs.take (natL (val xs)).length := by
  induction hn : xs.length generalizing xs with
  | zero => 
    obtain rfl := List.eq_nil_of_length_eq_zero hn
    rfl
  | succ k ih =>
    by_cases h0 : xs[k] = 0
    · have e := natL_take_nought (xs := xs) (k := k) (by omega) h0
      rw [List.take_of_length_le (by omega)] at e
      have := ih (limbs_take h k) (by simp; omega)
      rw [← e] at this
      rw [List.take_take] at this
      have hle : (natL (val xs)).length ≤ k := by
        rw [natL_length_le, e]
        have := val_lt (limbs_take h k)
        simpa [List.length_take, Nat.min_eq_left (show k ≤ xs.length by omega)] using this
      rw [Nat.min_eq_left hle] at this
      exact this
    · have hc : Canon xs := by
        have := canon_of_get (xs := xs) (k := k) (by omega) h0
        rwa [List.take_of_length_le (by omega)] at this
      rw [natL_val h hc, List.take_length]
theorem natL_val_le {xs : List Nat} (h : Limbs xs) : (natL (val xs)).length ≤ xs.length := natL_length_le.2 (val_lt h)
end Go.Proofs.YtpcdiijmhllejaaDoor
