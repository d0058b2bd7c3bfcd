/- Several texts in one: Tuple, Chain. -/
import Derived.Test.YtbdliabfdplohaaDoorBt02
import Derived.Deep.MidRow
set_option maxRecDepth 100000
set_option maxHeartbeats 8000000
/- A region that draws its order: 'a, b, c := f(x), g(y), h(z)', the variables in memory: values that do not hang on the order, variables made, values stored in them: ONE goal for all orders. -/
namespace Go.Proofs.YtbdliabfdplohaaDoor
open Go.RowKit

section
variable {P : Program} {ops : Array Oper} {Q : Exit → Act → World → Prop}

def unlisted (n : Nat) (L : Array Bool) : Nat := ((List.range n).filter fun i => !L.getD i false).length
def fill (t : Array Value) (l : List (Nat × Value)) : Array Value := l.foldl (fun t p => t.setIfInBounds p.1 p.2) t
theorem fill_other (l : List (Nat × Value)) (d : Nat) : ∀ t : Array Value, (∀ p ∈ l, p.1 ≠ d) → (fill t l)[d]? = t[d]? := by
  induction l with
  | nil => intro t _; rfl
  | cons p l ih =>
    intro t h
    show (fill _ l)[d]? = _
    rw [ih _ (fun q hq => h q (by simp [hq])), Array.getElem?_setIfInBounds_ne (h p (by simp))]
theorem fill_at (l : List (Nat × Value)) (hd : (l.map (·.1)).Nodup) (d : Nat) (v : Value) : ∀ t : Array Value, d < t.size → (d, v) ∈ l → (fill t l)[d]? = some v := by
  induction l with
  | nil => intro t _ h; cases h
  | cons p l ih =>
    intro t ht h
    simp only [List.map_cons, List.nodup_cons] at hd
    show (fill _ l)[d]? = _
    rcases List.mem_cons.1 h with rfl | h
    · rw [fill_other _ _ _ (fun q hq e => hd.1 (by simp only [List.mem_map]; exact ⟨q, hq, e⟩))]
      simp [ht]
    · exact ih hd.2 _ (by simpa using ht) h
inductive Cls where
  | val (v : Value)
  | new (T : TypeId) (n : Nat)
  | put (ia ic : Nat) (l : Array Value)
  | old (x b : Nat) (T : TypeId) (ic : Nat) (l : Array Value)

def Cls.of (c : Cls) (b : Nat) : Value := match c with
  | .val v => v
  | .new _ _ => .pointer (some ⟨b, 0, none⟩)
  | .put _ _ _ => undef
  | .old _ _ _ _ _ => undef
def pairs (ops : Array Oper) (f : Nat → Option Value) : List (Nat × Value) := ops.toList.zipIdx.filterMap fun (o, i) => match o.dst, f i with
  | some d, some v => some (d, v)
  | _, _ => none
def isVal (cls : Nat → Cls) (i : Nat) : Option Value := match cls i with
  | .val v => some v
  | _ => none
def readsOk (ops : Array Oper) (cls : Nat → Cls) : Bool := ops.toList.zipIdx.all fun (o, i) => match cls i with
  | .val _ => (match o.op with | .select _ _ => false | _ => true) && o.dst.isSome && o.op.operands.all fun x => match x with
    | .tmp t => (ops.all fun o' => o'.dst != some t) || o.after.any fun e => Region.binds .any e && ((isVal cls e.on).isSome && ((ops[e.on]?).bind (·.dst) == some t))
    | _ => true
  | _ => true

def setAll (cs : Array Value) : Nat → List Value → Array Value
  | _, [] => cs
  | o, v :: r => setAll (cs.setIfInBounds o v) (o + 1) r
def upd (f : Nat → Nat) (i b : Nat) : Nat → Nat := fun j => if j = i then b else f j
structure TI (ops : Array Oper) (cls : Nat → Cls) (a0 : Act) (B : Nat) (W : World) (z0 : Nat → Array Value) (bs : Nat → Nat) (L : Array Bool) (a : Act) (w : World) : Prop where
  defers : a.defers = a0.defers
  size : a.tmps.size = a0.tmps.size
  out : ∀ t, (∀ (i : Nat) o, ops[i]? = some o → L.getD i false = true → o.dst ≠ some t) → a.tmps[t]? = a0.tmps[t]?
  inn : ∀ (i : Nat) o d, ops[i]? = some o → L.getD i false = true → o.dst = some d → a.tmps[d]? = some ((cls i).of (bs i))
  below : Below B W w
  old : ∀ i x b T ic l, cls i = .old x b T ic l → B ≤ b ∧ b < W.heap.size ∧ ∃ cs, Blk w b T cs ∧ cs.size = l.size ∧ (L.getD i false = true → cs = l) ∧ (L.getD i false = false → cs = z0 i)
  closed : ∀ (i : Nat) o, ops[i]? = some o → L.getD i false = true → ∀ e ∈ o.after, Region.binds .any e = true → L.getD e.on false = true
  new : ∀ i T n, cls i = .new T n → L.getD i false = true → W.heap.size ≤ bs i ∧ ∃ cs, Blk w (bs i) T cs ∧ cs.size = n
  apart : ∀ i j T n T' n', cls i = .new T n → cls j = .new T' n' → L.getD i false = true → L.getD j false = true → i ≠ j → bs i ≠ bs j
  put : ∀ i ia ic l, cls i = .put ia ic l → L.getD i false = true → ∃ T, cls ia = .new T l.size ∧ L.getD ia false = true ∧ Blk w (bs ia) T l

theorem getD_set_iff {L : Array Bool} {i j : Nat} (hi : i < L.size) : (L.setIfInBounds i true).getD j false = true ↔ j = i ∨ L.getD j false = true := by
  by_cases e : i = j
  · subst e; simp [hi]
  · rw [getD_set_ne false e]; exact ⟨.inr, fun h => h.resolve_left (Ne.symm e)⟩

section
variable {cls : Nat → Cls} {a0 : Act} {B : Nat} {W : World} {z0 : Nat → Array Value} {bs : Nat → Nat} {L : Array Bool} {a : Act} {w : World}
theorem TI.tmps {i : Nat} {o : Oper} (h : TI ops cls a0 B W z0 bs L a w) (hi : ops[i]? = some o) (hL : i < L.size) (hun : L.getD i false = false)
    (hdist : ∀ (i j : Nat) oi oj d, ops[i]? = some oi → ops[j]? = some oj → oi.dst = some d → oj.dst = some d → i = j) (hroom : ∀ (i : Nat) o d, ops[i]? = some o → o.dst = some d → d < a0.tmps.size)
    (v : Value) (bs' : Nat → Nat) (hbs : ∀ j, L.getD j false = true → (cls j).of (bs' j) = (cls j).of (bs j)) (hv : ∀ d, o.dst = some d → v = (cls i).of (bs' i)) :
    (a.put o.dst v).defers = a0.defers ∧ (a.put o.dst v).tmps.size = a0.tmps.size ∧
    (∀ t, (∀ (k : Nat) ok, ops[k]? = some ok → (L.setIfInBounds i true).getD k false = true → ok.dst ≠ some t) → (a.put o.dst v).tmps[t]? = a0.tmps[t]?) ∧
    (∀ (k : Nat) ok d, ops[k]? = some ok → (L.setIfInBounds i true).getD k false = true → ok.dst = some d → (a.put o.dst v).tmps[d]? = some ((cls k).of (bs' k))) := by
  refine ⟨?_, ?_, fun t ht => ?_, fun k ok d hk hLk hd => ?_⟩
  · cases hd : o.dst <;> simp [Act.put, h.defers]
  · cases hd : o.dst <;> simp [Act.put, h.size]
  · have h1 := ht i o hi ((getD_set_iff hL).2 (.inl rfl))
    have h2 := h.out t fun k ok hk hLk => ht k ok hk ((getD_set_iff hL).2 (.inr hLk))
    cases hd : o.dst with
    | none => exact h2
    | some d =>
      rw [← h2]
      simp only [Act.put]
      exact Array.getElem?_setIfInBounds_ne (fun e => h1 (by rw [hd, e]))
  · rcases (getD_set_iff hL).1 hLk with rfl | hLk2
    · rw [hi] at hk; injection hk with hk; subst hk
      rw [hd, ← hv d hd]
      have := hroom k o d hi hd
      simp [Act.put, h.size, this]
    · have hne : k ≠ i := fun e => by rw [e, hun] at hLk2; cases hLk2
      rw [hbs k hLk2, ← h.inn k ok d hk hLk2 hd]
      cases hdo : o.dst with
      | none => rfl
      | some d' =>
        simp only [Act.put]
        exact Array.getElem?_setIfInBounds_ne (fun e => hne (hdist k i ok o d hk hi hd (by rw [hdo, e])))

end
theorem pairs_mem {f : Nat → Option Value} {p : Nat × Value} (h : p ∈ pairs ops f) : ∃ (i : Nat) (o : Oper), ops[i]? = some o ∧ o.dst = some p.1 ∧ f i = some p.2 := by
  unfold pairs at h
  rw [List.mem_filterMap] at h
  obtain ⟨⟨o, i⟩, hm, he⟩ := h
  rw [List.mem_zipIdx_iff_getElem?] at hm
  simp only at he hm
  cases hd : o.dst with
  | none => simp [hd] at he
  | some d => cases hf : f i with
    | none => simp [hd, hf] at he
    | some v => simp [hd, hf] at he; subst he; exact ⟨i, o, by simpa using hm, hd, hf⟩
theorem pairs_has {f : Nat → Option Value} {i : Nat} {o : Oper} {d : Nat} {v : Value} (hi : ops[i]? = some o) (hd : o.dst = some d) (hf : f i = some v) : (d, v) ∈ pairs ops f := by
  unfold pairs
  rw [List.mem_filterMap]
  refine ⟨(o, i), ?_, by simp [hd, hf]⟩
  rw [List.mem_zipIdx_iff_getElem?]; simpa using hi
theorem nodup_map_fst {l : List (Oper × Nat)} (f : Nat → Option Value) (h : (l.filterMap fun x => x.1.dst).Nodup) :
    ((l.filterMap fun (o, i) => match o.dst, f i with
      | some d, some v => some (d, v)
      | _, _ => none).map (·.1)).Nodup := by
  induction l with
  | nil => simp
  | cons x l ih =>
    obtain ⟨o, i⟩ := x
    simp only [List.filterMap_cons] at h ⊢
    cases hd : o.dst with
    | none => simp [hd] at h ⊢; simpa using ih h
    | some d =>
      simp only [hd, List.nodup_cons] at h
      cases hf : f i with
      | none => simpa [hd, hf] using ih h.2
      | some v =>
        simp only [List.map_cons, List.nodup_cons]
        refine ⟨fun hm => h.1 ?_, ih h.2⟩
        rw [List.mem_map] at hm
        obtain ⟨⟨d', v'⟩, hm, rfl⟩ := hm
        rw [List.mem_filterMap] at hm ⊢
        obtain ⟨⟨o', i'⟩, hm, he⟩ := hm
        refine ⟨(o', i'), hm, ?_⟩
        cases hd' : o'.dst with
        | none => simp [hd'] at he
        | some d2 => cases hf' : f i' with
          | none => simp [hd', hf'] at he
          | some v2 => simp [hd', hf'] at he; simp [he.1]
theorem zipIdx_dsts : ∀ (l : List Oper) (k : Nat), (l.zipIdx k).filterMap (fun x => x.1.dst) = l.filterMap (·.dst)
  | [], _ => rfl
  | o :: l, k => by simp [List.zipIdx_cons, List.filterMap_cons, zipIdx_dsts l (k + 1)]
theorem pairs_nodup (f : Nat → Option Value) (h : (ops.toList.filterMap (·.dst)).Nodup) : ((pairs ops f).map (·.1)).Nodup :=
  nodup_map_fst f (by rw [zipIdx_dsts]; exact h)
def clsOf (cl : List Cls) (i : Nat) : Cls := (cl[i]?).getD (.put 0 0 #[])
def ValOk (P : Program) (af : Act) (B : Nat) (W : World) (S : World → Prop) : List Oper → List Cls → Prop
  | o :: os, .val v :: cs => (∀ w, Below B W w → S w → o.wp P af w (fun a' w' => a' = af.put o.dst v ∧ Below w.heap.size w w') (fun _ _ _ => False)) ∧ ValOk P af B W S os cs
  | _ :: os, _ :: cs => ValOk P af B W S os cs
  | _, _ => True
def NewOk (P : Program) : List Oper → List Cls → Prop
  | o :: os, .new T n :: cs => (∃ z : Array Value, z.size = n ∧ ∀ (ρ : Operand → Value) (w : World), (execOp ρ o).run P w = .ok (.value (.pointer (some ⟨w.heap.size, 0, none⟩))) (w.alloc (.cells z T))) ∧ NewOk P os cs
  | _ :: os, _ :: cs => NewOk P os cs
  | _, _ => True
def PutOk (P : Program) (ops : Array Oper) (cl : List Cls) : List Oper → List Cls → Prop
  | o :: os, .put ia ic l :: cs => (∃ T x y, o.op = .store T (.tmp x) (.tmp y) ∧ o.dst = none ∧ (ops[ia]?).bind (·.dst) = some x ∧ (ops[ic]?).bind (·.dst) = some y ∧ cl[ia]? = some (.new T l.size) ∧ cl[ic]? = some (.val (.agg l)) ∧
      (o.after.any fun e => Region.binds .any e && e.on == ia) = true ∧ (o.after.any fun e => Region.binds .any e && e.on == ic) = true ∧ (P.info? T).map (·.size) = some l.size ∧ l.all (·.oneCell') = true) ∧ PutOk P ops cl os cs
  | _ :: os, _ :: cs => PutOk P ops cl os cs
  | _, _ => True
def OldOk (P : Program) (ops : Array Oper) (cl : List Cls) (t0 : Array Value) (B : Nat) (W w0 : World) (z : Array Value) : List Oper → List Cls → Prop
  | o :: os, .old x b T ic l :: cs => (B ≤ b ∧ b < W.heap.size ∧ Blk w0 b T z ∧ z.size = l.size ∧ ∃ y, o.op = .store T (.tmp x) (.tmp y) ∧ o.dst = none ∧ (ops[ic]?).bind (·.dst) = some y ∧ cl[ic]? = some (.val (.agg l)) ∧
      (ops.all fun ok => ok.dst != some x) = true ∧ t0[x]? = some (.pointer (some ⟨b, 0, none⟩)) ∧ (o.after.any fun e => Region.binds .any e && e.on == ic) = true ∧ (P.info? T).map (·.size) = some l.size ∧ l.all (·.oneCell') = true) ∧ OldOk P ops cl t0 B W w0 z os cs
  | _ :: os, _ :: cs => OldOk P ops cl t0 B W w0 z os cs
  | _, _ => True
def putsOf : List Cls → List Nat
  | .put ia _ _ :: cs => ia :: putsOf cs
  | _ :: cs => putsOf cs
  | [] => []
def oldsOf : List Cls → Nat
  | .old _ _ _ _ _ :: cs => oldsOf cs + 1
  | _ :: cs => oldsOf cs
  | [] => 0
def waitsB (ops : Array Oper) (cl : List Cls) : Bool := (List.range ops.size).all fun j => match clsOf cl j with
  | .old _ _ _ _ _ => (List.range ops.size).all fun i => match clsOf cl i with
    | .val _ => ((ops[j]?).map fun o => o.after.any fun e => Region.binds .any e && e.on == i).getD false
    | _ => true
  | _ => true
def nodupB : List Nat → Bool
  | [] => true
  | x :: l => !l.contains x && nodupB l
theorem ValOk.get {af : Act} {B : Nat} {W : World} {S : World → Prop} {v : Value} {o : Oper} : ∀ (os : List Oper) (cs : List Cls), ValOk P af B W S os cs → ∀ i : Nat, os[i]? = some o → cs[i]? = some (.val v) → ∀ w, Below B W w → S w → o.wp P af w (fun a' w' => a' = af.put o.dst v ∧ Below w.heap.size w w') (fun _ _ _ => False)
  | [], _, _, i, h1, _ => by simp at h1
  | _ :: _, [], _, i, _, h2 => by simp at h2
  | o' :: os, c :: cs, h, 0, h1, h2 => by
    simp at h1 h2; subst h1 h2
    exact h.1
  | o' :: os, c :: cs, h, i + 1, h1, h2 => by
    have h' : ValOk P af B W S os cs := by cases c <;> first | exact h.2 | exact h
    exact ValOk.get os cs h' i (by simpa using h1) (by simpa using h2)
theorem NewOk.get {T : TypeId} {n : Nat} {o : Oper} : ∀ (os : List Oper) (cs : List Cls), NewOk P os cs → ∀ i : Nat, os[i]? = some o → cs[i]? = some (.new T n) → ∃ z : Array Value, z.size = n ∧ ∀ (ρ : Operand → Value) (w : World), (execOp ρ o).run P w = .ok (.value (.pointer (some ⟨w.heap.size, 0, none⟩))) (w.alloc (.cells z T))
  | [], _, _, i, h1, _ => by simp at h1
  | _ :: _, [], _, i, _, h2 => by simp at h2
  | o' :: os, c :: cs, h, 0, h1, h2 => by
    simp at h1 h2; subst h1 h2
    exact h.1
  | o' :: os, c :: cs, h, i + 1, h1, h2 => by
    have h' : NewOk P os cs := by cases c <;> first | exact h.2 | exact h
    exact NewOk.get os cs h' i (by simpa using h1) (by simpa using h2)
theorem PutOk.get {cl : List Cls} {ia ic : Nat} {l : Array Value} {o : Oper} : ∀ (os : List Oper) (cs : List Cls), PutOk P ops cl os cs → ∀ i : Nat, os[i]? = some o → cs[i]? = some (.put ia ic l) →
    ∃ T x y, o.op = .store T (.tmp x) (.tmp y) ∧ o.dst = none ∧ (ops[ia]?).bind (·.dst) = some x ∧ (ops[ic]?).bind (·.dst) = some y ∧ cl[ia]? = some (.new T l.size) ∧ cl[ic]? = some (.val (.agg l)) ∧
      (o.after.any fun e => Region.binds .any e && e.on == ia) = true ∧ (o.after.any fun e => Region.binds .any e && e.on == ic) = true ∧ (P.info? T).map (·.size) = some l.size ∧ l.all (·.oneCell') = true
  | [], _, _, i, h1, _ => by simp at h1
  | _ :: _, [], _, i, _, h2 => by simp at h2
  | o' :: os, c :: cs, h, 0, h1, h2 => by
    simp at h1 h2; subst h1 h2
    exact h.1
  | o' :: os, c :: cs, h, i + 1, h1, h2 => by
    have h' : PutOk P ops cl os cs := by cases c <;> first | exact h.2 | exact h
    exact PutOk.get os cs h' i (by simpa using h1) (by simpa using h2)
theorem OldOk.get {cl : List Cls} {t0 : Array Value} {B : Nat} {W w0 : World} {z : Array Value} {x b : Nat} {T : TypeId} {ic : Nat} {l : Array Value} {o : Oper} : ∀ (os : List Oper) (cs : List Cls), OldOk P ops cl t0 B W w0 z os cs → ∀ i : Nat, os[i]? = some o → cs[i]? = some (.old x b T ic l) →
    B ≤ b ∧ b < W.heap.size ∧ Blk w0 b T z ∧ z.size = l.size ∧ ∃ y, o.op = .store T (.tmp x) (.tmp y) ∧ o.dst = none ∧ (ops[ic]?).bind (·.dst) = some y ∧ cl[ic]? = some (.val (.agg l)) ∧
      (ops.all fun ok => ok.dst != some x) = true ∧ t0[x]? = some (.pointer (some ⟨b, 0, none⟩)) ∧ (o.after.any fun e => Region.binds .any e && e.on == ic) = true ∧ (P.info? T).map (·.size) = some l.size ∧ l.all (·.oneCell') = true
  | [], _, _, i, h1, _ => by simp at h1
  | _ :: _, [], _, i, _, h2 => by simp at h2
  | o' :: os, c :: cs, h, 0, h1, h2 => by
    simp at h1 h2; subst h1 h2
    exact h.1
  | o' :: os, c :: cs, h, i + 1, h1, h2 => by
    have h' : OldOk P ops cl t0 B W w0 z os cs := by cases c <;> first | exact h.2 | exact h
    exact OldOk.get os cs h' i (by simpa using h1) (by simpa using h2)
end
/- A region that draws its order, in which all that makes or changes memory comes one behind the other: each such step may hand back whatever it likes. -/

section
variable {P : Program} {ops : Array Oper} {Q : Exit → Act → World → Prop}

inductive Stp where
  | val (v : Value)
  | step
def Stp.isStep : Stp → Bool
  | .step => true
  | _ => false
def stepNo (cl : List Stp) (i : Nat) : Nat := ((cl.take i).filter Stp.isStep).length
def stepIs (cl : List Stp) (i : Nat) : Bool := ((cl[i]?).map Stp.isStep).getD false
def valIs (cl : List Stp) (i : Nat) : Bool := ((cl[i]?).map fun c => !c.isStep).getD false
def valAt (cl : List Stp) (us : List Value) (i : Nat) : Value := match cl[i]? with
  | some (.val v) => v
  | some .step => us.getD (stepNo cl i) undef
  | none => undef
def edgeB (o : Oper) (k : Nat) : Bool := o.after.any fun e => Region.binds .any e && e.on == k
def readsB (ops : Array Oper) (cl : List Stp) : Bool := (List.range ops.size).all fun i => match ops[i]? with
  | some o => (match o.op with | .select _ _ => false | _ => true) && o.op.operands.all fun x => match x with
    | .tmp t => (ops.all fun o' => o'.dst != some t) || o.after.any fun e => Region.binds .any e && ((ops[e.on]?).bind (·.dst) == some t) && (valIs cl e.on || stepIs cl i)
    | _ => true
  | none => true
def reachB (ops : Array Oper) : Nat → Oper → Nat → Bool
  | 0, _, _ => false
  | f + 1, o, k => o.after.any fun e => Region.binds .any e && (e.on == k || match ops[e.on]? with
    | some o' => reachB ops f o' k
    | none => false)
def chainB (ops : Array Oper) (cl : List Stp) (m0 m : Nat) : Bool := (List.range ops.size).all fun i => !stepIs cl i || (match ops[i]? with
  | some o => decide (stepNo cl i < m) && (stepNo cl i == 0 || (List.range ops.size).any fun j => stepIs cl j && stepNo cl j + 1 == stepNo cl i && edgeB o j) &&
      (decide (stepNo cl i < m0) || (List.range ops.size).all fun j => stepIs cl j || edgeB o j || reachB ops 4 o j) && (List.range ops.size).all fun j => !stepIs cl j || stepNo cl j != stepNo cl i || j == i
  | none => false)
def lastB (ops : Array Oper) (cl : List Stp) (m : Nat) : Bool := m == 0 || (List.range ops.size).any fun i => stepIs cl i && stepNo cl i + 1 == m

structure CI (ops : Array Oper) (cl : List Stp) (a0 : Act) (R : List Value → World → Prop) (m0 m : Nat) (us : List Value) (L : Array Bool) (a : Act) (w : World) : Prop where
  defers : a.defers = a0.defers
  size : a.tmps.size = a0.tmps.size
  out : ∀ t, (∀ (i : Nat) o, ops[i]? = some o → L.getD i false = true → o.dst ≠ some t) → a.tmps[t]? = a0.tmps[t]?
  inn : ∀ (i : Nat) o d, ops[i]? = some o → L.getD i false = true → o.dst = some d → a.tmps[d]? = some (valAt cl us i)
  steps : ∀ i, i < ops.size → stepIs cl i = true → (L.getD i false = true ↔ stepNo cl i < us.length)
  early : m0 < us.length → ∀ i, i < ops.size → stepIs cl i = false → L.getD i false = true
  count : us.length ≤ m
  closed : ∀ (i : Nat) o, ops[i]? = some o → L.getD i false = true → ∀ e ∈ o.after, Region.binds .any e = true → L.getD e.on false = true
  rel : R us w

section
variable {cl : List Stp} {a0 : Act} {R : List Value → World → Prop} {m0 m : Nat} {us : List Value} {L : Array Bool} {a : Act} {w : World}
theorem CI.tmps {i : Nat} {o : Oper} (h : CI ops cl a0 R m0 m us L a w) (hi : ops[i]? = some o) (hL : i < L.size) (hun : L.getD i false = false)
    (hdist : ∀ (i j : Nat) oi oj d, ops[i]? = some oi → ops[j]? = some oj → oi.dst = some d → oj.dst = some d → i = j) (hroom : ∀ (i : Nat) o d, ops[i]? = some o → o.dst = some d → d < a0.tmps.size)
    (v : Value) (us' : List Value) (hus : ∀ (j : Nat) oj, ops[j]? = some oj → L.getD j false = true → valAt cl us' j = valAt cl us j) (hv : v = valAt cl us' i ∨ o.dst = none) :
    (a.put o.dst v).defers = a0.defers ∧ (a.put o.dst v).tmps.size = a0.tmps.size ∧
    (∀ t, (∀ (k : Nat) ok, ops[k]? = some ok → (L.setIfInBounds i true).getD k false = true → ok.dst ≠ some t) → (a.put o.dst v).tmps[t]? = a0.tmps[t]?) ∧
    (∀ (k : Nat) ok d, ops[k]? = some ok → (L.setIfInBounds i true).getD k false = true → ok.dst = some d → (a.put o.dst v).tmps[d]? = some (valAt cl us' k)) := by
  refine ⟨?_, ?_, fun t ht => ?_, fun k ok d hk hLk hd => ?_⟩
  · cases hd : o.dst <;> simp [Act.put, h.defers]
  · cases hd : o.dst <;> simp [Act.put, h.size]
  · have h1 := ht i o hi ((getD_set_iff hL).2 (.inl rfl))
    have h2 := h.out t fun k ok hk hLk => ht k ok hk ((getD_set_iff hL).2 (.inr hLk))
    cases hd : o.dst with
    | none => exact h2
    | some d =>
      rw [← h2]
      simp only [Act.put]
      exact Array.getElem?_setIfInBounds_ne (fun e => h1 (by rw [hd, e]))
  · rcases (getD_set_iff hL).1 hLk with rfl | hLk2
    · rw [hi] at hk; injection hk with hk; subst hk
      rcases hv with hv | hv
      · rw [hd, ← hv]
        have := hroom k o d hi hd
        simp [Act.put, h.size, this]
      · rw [hv] at hd; cases hd
    · have hne : k ≠ i := fun e => by rw [e, hun] at hLk2; cases hLk2
      rw [hus k ok hk hLk2, ← h.inn k ok d hk hLk2 hd]
      cases hdo : o.dst with
      | none => rfl
      | some d' =>
        simp only [Act.put]
        exact Array.getElem?_setIfInBounds_ne (fun e => hne (hdist k i ok o d hk hi hd (by rw [hdo, e])))

def chainAct (ops : Array Oper) (cl : List Stp) (a0 : Act) (us : List Value) : Act := ⟨fill a0.tmps (pairs ops fun i => some (valAt cl us i)), a0.defers⟩

theorem CI.eval {i : Nat} {o : Oper} (h : CI ops cl a0 R m0 m us L a w) (hi : ops[i]? = some o) (hreads : readsB ops cl = true) (hdst : (ops.toList.filterMap (·.dst)).Nodup)
    (hroom : ∀ (i : Nat) o d, ops[i]? = some o → o.dst = some d → d < a0.tmps.size) (hp : ∀ e ∈ o.after, Region.binds .any e = true → L.getD e.on false = true)
    (us' : List Value) (hus : us' = us ∨ stepIs cl i = false) :
    (∀ cs b, o.op ≠ .select cs b) ∧ ∀ x ∈ o.op.operands, a.eval x = (chainAct ops cl a0 us').eval x := by
  have hlt : i < ops.size := (Array.getElem?_eq_some_iff.1 hi).1
  have h1 := List.all_eq_true.1 hreads i (List.mem_range.2 hlt)
  simp only [hi, Bool.and_eq_true] at h1
  obtain ⟨hsel, hops⟩ := h1
  refine ⟨fun cs b e => by rw [e] at hsel; simp at hsel, fun x hx => ?_⟩
  rw [Array.all_eq_true_iff_forall_mem] at hops
  have h2 := hops x hx
  cases x with
  | tmp t =>
    simp only [Bool.or_eq_true] at h2
    rcases h2 with h2 | h2
    · rw [Array.all_eq_true_iff_forall_mem] at h2
      have hno : ∀ (k : Nat) ok, ops[k]? = some ok → ok.dst ≠ some t := fun k ok hk e => by
        have := h2 ok (Array.mem_of_getElem? hk)
        simp [e] at this
      have e1 := h.out t fun k ok hk _ => hno k ok hk
      have e2 := fill_other (pairs ops fun i => some (valAt cl us' i)) t a0.tmps fun p hp e => by
        obtain ⟨k, ok, hk, hd, _⟩ := pairs_mem hp
        exact hno k ok hk (by rw [hd, e])
      simp [Act.eval, Array.getD_eq_getD_getElem?, chainAct, e1, e2]
    · rw [← Array.any_toList, List.any_eq_true] at h2
      obtain ⟨e, he, h3⟩ := h2
      rw [Array.mem_toList_iff] at he
      simp only [Bool.and_eq_true, Bool.or_eq_true, beq_iff_eq] at h3
      obtain ⟨⟨hb, hd⟩, hv⟩ := h3
      cases hoe : ops[e.on]? with
      | none => simp [hoe] at hd
      | some oe =>
        simp only [hoe, Option.bind_some] at hd
        have e1 := h.inn e.on oe t hoe (hp e he hb) hd
        have e2 := fill_at (pairs ops fun i => some (valAt cl us' i)) (pairs_nodup _ hdst) t (valAt cl us' e.on) a0.tmps (hroom _ _ _ hoe hd) (pairs_has hoe hd rfl)
        have e3 : valAt cl us' e.on = valAt cl us e.on := by
          rcases hus with rfl | hus
          · rfl
          · rcases hv with hv | hv
            · unfold valIs at hv
              unfold valAt
              cases hc : cl[e.on]? with
              | none => simp [hc] at hv
              | some c => cases c with
                | val v => rfl
                | step => simp [hc, Stp.isStep] at hv
            · rw [hus] at hv; cases hv
        rw [e3] at e2
        simp [Act.eval, Array.getD_eq_getD_getElem?, chainAct, e1, e2]
  | _ => rfl
end

def ValOk2 (P : Program) (af : Act) (m0 : Nat) (R : List Value → World → Prop) : List Oper → List Stp → Prop
  | o :: os, .val v :: cs => (∀ us w, us.length ≤ m0 → R us w → o.wp P af w (fun a' w' => a' = af.put o.dst v ∧ Below w.heap.size w w') (fun _ _ _ => False)) ∧ ValOk2 P af m0 R os cs
  | _ :: os, .step :: cs => ValOk2 P af m0 R os cs
  | _, _ => True
def StepOk (P : Program) (af : List Value → Act) (R : List Value → World → Prop) : Nat → List Oper → List Stp → Prop
  | k, o :: os, .step :: cs => (∀ us w, us.length = k → R us w → o.wp P (af us) w (fun a' w' => ∃ u, a' = (af us).put o.dst u ∧ R (us ++ [u]) w') (fun _ _ _ => False)) ∧ StepOk P af R (k + 1) os cs
  | k, _ :: os, .val _ :: cs => StepOk P af R k os cs
  | _, _, _ => True
theorem ValOk2.get {af : Act} {m0 : Nat} {R : List Value → World → Prop} {v : Value} {o : Oper} : ∀ (os : List Oper) (cs : List Stp), ValOk2 P af m0 R os cs → ∀ i : Nat, os[i]? = some o → cs[i]? = some (.val v) → ∀ us w, us.length ≤ m0 → R us w → o.wp P af w (fun a' w' => a' = af.put o.dst v ∧ Below w.heap.size w w') (fun _ _ _ => False)
  | [], _, _, i, h1, _ => by simp at h1
  | _ :: _, [], _, i, _, h2 => by simp at h2
  | o' :: os, c :: cs, h, 0, h1, h2 => by
    simp at h1 h2; subst h1 h2
    exact h.1
  | o' :: os, c :: cs, h, i + 1, h1, h2 => by
    have h' : ValOk2 P af m0 R os cs := by cases c <;> first | exact h.2 | exact h
    exact ValOk2.get os cs h' i (by simpa using h1) (by simpa using h2)
theorem StepOk.get {af : List Value → Act} {R : List Value → World → Prop} {o : Oper} : ∀ (os : List Oper) (cs : List Stp) (k : Nat), StepOk P af R k os cs → ∀ i : Nat, os[i]? = some o → cs[i]? = some .step → ∀ us w, us.length = k + stepNo cs i → R us w → o.wp P (af us) w (fun a' w' => ∃ u, a' = (af us).put o.dst u ∧ R (us ++ [u]) w') (fun _ _ _ => False)
  | [], _, _, _, i, h1, _ => by simp at h1
  | _ :: _, [], _, _, i, _, h2 => by simp at h2
  | o' :: os, c :: cs, k, h, 0, h1, h2 => by
    simp at h1 h2; subst h1 h2
    intro us w hu
    exact h.1 us w (by simpa [stepNo] using hu)
  | o' :: os, c :: cs, k, h, i + 1, h1, h2 => by
    intro us w hu hr
    cases c with
    | val v =>
      have h' : StepOk P af R k os cs := h
      exact StepOk.get os cs k h' i (by simpa using h1) (by simpa using h2) us w (by simpa [stepNo, Stp.isStep] using hu) hr
    | step =>
      exact StepOk.get os cs (k + 1) h.2 i (by simpa using h1) (by simpa using h2) us w (by rw [hu]; show _ = k + 1 + _; unfold stepNo; rw [List.take_succ_cons, List.filter_cons_of_pos rfl, List.length_cons]; omega) hr

def ValsOk (P : Program) (af : Act) (B : Nat) (W : World) : List Oper → List Stp → Prop
  | o :: os, .val v :: cs => (∀ w, Below B W w → o.wp P af w (fun a' w' => a' = af.put o.dst v ∧ Below w.heap.size w w') (fun _ _ _ => False)) ∧ ValsOk P af B W os cs
  | _ :: os, .step :: cs => ValsOk P af B W os cs
  | _, _ => True
def StepsOk (P : Program) (af : List Value → Act) (B : Nat) (W : World) (G F : List Value → World → Prop) (m0 : Nat) : List Value → List Oper → List Stp → Prop
  | us, o :: os, .step :: cs => (if us.length < m0 then ∀ w, Below B W w → G us w → o.wp P (af us) w (fun a' w' => ∃ u, a' = (af us).put o.dst u ∧ Below B W w' ∧ G (us ++ [u]) w') (fun _ _ _ => False)
      else if us.length = m0 then ∀ w, Below B W w → G us w → o.wp P (af us) w (fun a' w' => ∃ u, a' = (af us).put o.dst u ∧ F (us ++ [u]) w') (fun _ _ _ => False)
      else ∀ w, F us w → o.wp P (af us) w (fun a' w' => ∃ u, a' = (af us).put o.dst u ∧ F (us ++ [u]) w') (fun _ _ _ => False)) ∧ ∀ u, StepsOk P af B W G F m0 (us ++ [u]) os cs
  | us, _ :: os, .val _ :: cs => StepsOk P af B W G F m0 us os cs
  | _, _, _ => True
def chainR (B : Nat) (W : World) (G F : List Value → World → Prop) (m0 : Nat) (us : List Value) (w : World) : Prop := if us.length ≤ m0 then Below B W w ∧ G us w else F us w

end
end Go.Proofs.YtbdliabfdplohaaDoor
