/- Several texts in one: NV, Free. -/
import Derived.Test.YtbdliabfdplohaaDoorBt03
import Derived.Test.YtbdliabfdplohaaDoorBt19
set_option maxRecDepth 100000
set_option maxHeartbeats 8000000
/- Variables that hold numbers. -/
namespace Go.Proofs.YtbdliabfdplohaaDoor
open Go.RowKit

structure NV (w : World) (g : Nat) (z : Int) (A : Option Addr) (c : Nat) : Prop where
  pair : Pair w g 24 (.bool (decide (z < 0))) (.slice A (natL z.natAbs).length c)
  raw : Raw w A c (natL z.natAbs)
theorem NV.below {w w' : World} {g : Nat} {z : Int} {A : Option Addr} {c : Nat} (h : NV w g z A c) (hb : Below w.heap.size w w') : NV w' g z A c := ⟨h.pair.below hb, h.raw.below hb⟩
theorem NV.of {w w' : World} {g : Nat} {z : Int} {A : Option Addr} {c : Nat} (h : Raw w A c (natL z.natAbs)) (hb : Below w.heap.size w w') (p : Pair w' g 24 (.bool (decide (z < 0))) (.slice A (natL z.natAbs).length c)) : NV w' g z A c := ⟨p, h.below hb⟩
structure NR (w : World) (g : Nat) (n : Bool) (A : Option Addr) (c : Nat) (xs : List Nat) : Prop where
  pair : Pair w g 24 (.bool n) (.slice A xs.length c)
  raw : Raw w A c xs
theorem NR.below {w w' : World} {g : Nat} {n : Bool} {A : Option Addr} {c : Nat} {xs : List Nat} (h : NR w g n A c xs) (hb : Below w.heap.size w w') : NR w' g n A c xs := ⟨h.pair.below hb, h.raw.below hb⟩
theorem NR.of {w w' : World} {g : Nat} {n : Bool} {A : Option Addr} {c : Nat} {xs : List Nat} (h : Raw w A c xs) (hb : Below w.heap.size w w') (p : Pair w' g 24 (.bool n) (.slice A xs.length c)) : NR w' g n A c xs := ⟨p, h.below hb⟩
/- A region that draws its order: each operation hands back whatever it likes, of which something is told that stays true; variables made and stored in; guards that are decided: ONE goal an operation, one end. -/

structure KeptV (B : Nat) (Ts : List TypeId) (w w' : World) : Prop where
  size : w.heap.size ≤ w'.heap.size
  block : ∀ g, g < w.heap.size → w'.heap[g]? = w.heap[g]? ∨ (B ≤ g ∧ ∃ T ∈ Ts, ∃ cs, Blk w g T cs)
theorem KeptV.refl (B : Nat) (Ts : List TypeId) (w : World) : KeptV B Ts w w := ⟨Nat.le_refl _, fun _ _ => .inl rfl⟩
theorem KeptV.trans {B : Nat} {Ts : List TypeId} {a b c : World} (h : KeptV B Ts a b) (k : KeptV B Ts b c) : KeptV B Ts a c := by
  refine ⟨Nat.le_trans h.size k.size, fun g hg => ?_⟩
  rcases h.block g hg with e | e
  · rcases k.block g (Nat.lt_of_lt_of_le hg h.size) with e2 | ⟨h1, T, hT, cs, h2⟩
    · exact .inl (e2.trans e)
    · exact .inr ⟨h1, T, hT, cs, by unfold Blk at h2 ⊢; rw [← e]; exact h2⟩
  · exact .inr e
theorem KeptV.drew {B : Nat} {Ts : List TypeId} {a b : World} (h : KeptV B Ts a b) : KeptV B Ts a b.drew := ⟨h.size, h.block⟩
theorem KeptV.blk {B : Nat} {Ts : List TypeId} {w w' : World} {g : Nat} {T : TypeId} {cs : Array Value} (k : KeptV B Ts w w') (h : Blk w g T cs) (hT : T ∉ Ts) : Blk w' g T cs := by
  rcases k.block g h.lt with e | ⟨_, T', hT', cs', h'⟩
  · exact e.trans h
  · unfold Blk at h h'
    rw [h] at h'
    injection h' with h'
    injection h' with _ h'
    subst h'
    exact absurd hT' hT
theorem KeptV.own {B : Nat} {Ts : List TypeId} {w w' : World} {base : Nat} {e : TypeId} {size n : Nat} {v : Value} {xs : List Value} (k : KeptV B Ts w w') (h : w.ownsRow base e size v n xs) (hT : e ∉ Ts) : w'.ownsRow base e size v n xs := by
  refine ⟨h.1, ?_⟩
  rcases h.2 with h2 | ⟨g, cap, cur, h1, h2, h3, h4⟩
  · exact .inl h2
  · exact .inr ⟨g, cap, cur, h1, h2, k.blk (T := e) h3 hT, h4⟩

section
variable {P : Program} {ops : Array Oper} {Q : Exit → Act → World → Prop}

inductive Fcl where
  /-- a value known beforehand -/
  | val (v : Value) (ds : List Nat)
  /-- a value of which so much is told; 'mine': its memory is new -/
  | any (mine : Bool) (Φ : Value → World → Prop) (ds : List Nat)
  /-- a variable made -/
  | new (T : TypeId) (n : Nat)
  /-- a store into the variable that operation ia made of what operation ic handed back -/
  | put (T : TypeId) (n ia ic : Nat) (ds : List Nat)
  /-- a store into the elder block b (cells cs) from offset o on -/
  | old (b : Nat) (T : TypeId) (cs : Array Value) (o n ic : Nat) (ds : List Nat)
  /-- not done: its guard says no -/
  | skip

def Fcl.deps : Fcl → List Nat
  | .val _ ds => ds
  | .any _ _ ds => ds
  | .put _ _ ia ic ds => ia :: ic :: ds
  | .old _ _ _ _ _ ic ds => ic :: ds
  | _ => []
def Fcl.isSkip : Fcl → Bool
  | .skip => true
  | _ => false
def Fcl.hard : Fcl → List Nat
  | .put _ _ ia ic _ => [ia, ic]
  | .old _ _ _ _ _ ic _ => [ic]
  | _ => []
def mineAt (cl : List Fcl) (i : Nat) : Bool := match cl[i]? with
  | some (.any true _ _) => true
  | _ => false
def pairB (ops : Array Oper) (cl : List Fcl) (o : Oper) (i j : Nat) : Bool := mineAt cl i && mineAt cl j && i != j && (edgeB o i || reachB ops 4 o i) && (edgeB o j || reachB ops 4 o j)
def depsB (ops : Array Oper) (cl : List Fcl) : Bool := (List.range ops.size).all fun i => match ops[i]?, cl[i]? with
  | some o, some c => (c.deps.all fun j => if 1000000 ≤ j then pairB ops cl o ((j - 1000000) / 1000) ((j - 1000000) % 1000) else if 1000 ≤ j then (match ops[j - 1000]? with | some oj => edgeB oj i || reachB ops 4 oj i | none => false) else j == 999 || edgeB o j || reachB ops 4 o j) && c.hard.all fun j => decide (j < 1000) && (edgeB o j || reachB ops 4 o j)
  | _, _ => false
def readsF (ops : Array Oper) (cl : List Fcl) : Bool := (List.range ops.size).all fun i => match ops[i]?, cl[i]? with
  | some o, some c => c.isSkip || ((match o.op with | .select _ _ => false | _ => true) && o.op.operands.all fun x => match x with
    | .tmp t => (ops.all fun o' => o'.dst != some t) || o.after.any fun e => Region.binds .any e && ((ops[e.on]?).bind (·.dst) == some t)
    | _ => true)
  | _, _ => false
def guardsF (ops : Array Oper) (cl : List Fcl) : Bool := (List.range ops.size).all fun i => match ops[i]?, cl[i]? with
  | some o, some c => (match o.guard with
    | none => !c.isSkip
    | some (j, want) => ((ops[j]?).bind (·.dst)).isSome && (edgeB o j || reachB ops 4 o j) && (match cl[j]? with
      | some (.val (.bool b) _) => (b == want) == !c.isSkip
      | some .skip => c.isSkip
      | _ => false))
  | _, _ => false
def putsF : List Fcl → List Nat
  | .put _ _ ia _ _ :: cs => ia :: putsF cs
  | _ :: cs => putsF cs
  | [] => []
def oldsF : List Fcl → List Nat
  | .old b _ _ _ _ _ _ :: cs => b :: oldsF cs
  | _ :: cs => oldsF cs
  | [] => []
def newsF (Ts : List TypeId) (cl : List Fcl) : Bool := cl.all fun
  | .new T _ => Ts.contains T
  | .old _ T _ _ _ _ _ => Ts.contains T
  | .put T n ia _ _ => match cl[ia]? with
    | some (.new T' n') => T == T' && n == n'
    | _ => false
  | _ => true

def freeAct (ops : Array Oper) (a0 : Act) (us : List Value) : Act := ⟨fill a0.tmps (pairs ops fun i => some (us.getD i undef)), a0.defers⟩

def DepF (M : Value → Nat → Prop) (cl : List Fcl) (us : List Value) (W w : World) : List Nat → Prop
  | [] => True
  | j :: js => (if 1000000 ≤ j then ∀ g, M (us.getD ((j - 1000000) / 1000) undef) g → ¬ M (us.getD ((j - 1000000) % 1000) undef) g
    else if 1000 ≤ j then (match cl[j - 1000]? with
      | some (.old b T cs _ _ _ _) => Blk w b T cs
      | _ => True)
    else if j = 999 then ∀ g, g < W.heap.size → g ∉ oldsF cl → w.heap[g]? = W.heap[g]?
    else match cl[j]? with
      | some (.any _ Φ _) => Φ (us.getD j undef) w
      | _ => True) ∧ DepF M cl us W w js

def StoreF (P : Program) (a : Act) (o : Oper) (p v : Value) (n : Nat) : Prop := ∃ T X Y, o.op = .store T X Y ∧ o.dst = none ∧ a.eval X = p ∧ a.eval Y = v ∧ (P.info? T).map (·.size) = some n
def AllocF (P : Program) (o : Oper) (T : TypeId) (n : Nat) : Prop := ∃ z : Array Value, z.size = n ∧ ∀ (ρ : Operand → Value) (w : World), (execOp ρ o).run P w = .ok (.value (.pointer (some ⟨w.heap.size, 0, none⟩))) (w.alloc (.cells z T))
def CellsN (v : Value) (n : Nat) : Prop := v.cells.size = n ∧ v.cells.all (·.oneCell') = true
def StableF (B : Nat) (Ts : List TypeId) : List Fcl → Prop
  | .any _ Φ _ :: cs => (∀ u w w', Φ u w → KeptV B Ts w w' → Φ u w') ∧ StableF B Ts cs
  | _ :: cs => StableF B Ts cs
  | [] => True
def OldsF (B : Nat) (W w0 : World) : List Fcl → Prop
  | .old b T cs o n _ _ :: r => (B ≤ b ∧ b < W.heap.size ∧ Blk w0 b T cs ∧ o + n ≤ cs.size) ∧ OldsF B W w0 r
  | _ :: r => OldsF B W w0 r
  | [] => True
def StepsF (P : Program) (af : List Value → Act) (B : Nat) (Ts : List TypeId) (W : World) (M : Value → Nat → Prop) (cl : List Fcl) : List Value → List Oper → List Fcl → Prop
  | us, o :: os, .val v ds :: cs => (∀ w, Below B W w → KeptV B Ts W w → DepF M cl us W w ds → o.wp P (af us) w (fun a' w' => a' = (af us).put o.dst v ∧ Below w.heap.size w w') (fun _ _ _ => False)) ∧ StepsF P af B Ts W M cl (us ++ [v]) os cs
  | us, o :: os, .any mine Φ ds :: cs => (∀ w, Below B W w → KeptV B Ts W w → DepF M cl us W w ds → o.wp P (af us) w (fun a' w' => ∃ u, a' = (af us).put o.dst u ∧ Φ u w' ∧ Below w.heap.size w w' ∧ (mine = true → ∀ g, M u g → w.heap.size ≤ g ∧ g < w'.heap.size)) (fun _ _ _ => False)) ∧ ∀ u, StepsF P af B Ts W M cl (us ++ [u]) os cs
  | us, o :: os, .new T n :: cs => AllocF P o T n ∧ ∀ b, StepsF P af B Ts W M cl (us ++ [.pointer (some ⟨b, 0, none⟩)]) os cs
  | us, o :: os, .put _ n ia ic ds :: cs => StoreF P (af us) o (us.getD ia undef) (us.getD ic undef) n ∧ (∀ w, Below B W w → KeptV B Ts W w → DepF M cl us W w (ic :: ds) → CellsN (us.getD ic undef) n) ∧ StepsF P af B Ts W M cl (us ++ [undef]) os cs
  | us, o :: os, .old b _ _ k n ic ds :: cs => StoreF P (af us) o (.pointer (some ⟨b, k, none⟩)) (us.getD ic undef) n ∧ (∀ w, Below B W w → KeptV B Ts W w → DepF M cl us W w (ic :: ds) → CellsN (us.getD ic undef) n) ∧ StepsF P af B Ts W M cl (us ++ [undef]) os cs
  | us, _ :: os, .skip :: cs => StepsF P af B Ts W M cl (us ++ [undef]) os cs
  | _, _, _ => True
def FactsF (us : List Value) (w : World) : Nat → List Fcl → Prop
  | k, .any _ Φ _ :: cs => Φ (us.getD k undef) w ∧ FactsF us w (k + 1) cs
  | k, .put T _ ia ic _ :: cs => (∃ b, us.getD ia undef = .pointer (some ⟨b, 0, none⟩) ∧ Blk w b T (us.getD ic undef).cells) ∧ FactsF us w (k + 1) cs
  | k, .old b T cs0 o _ ic _ :: cs => Blk w b T (setAll cs0 o (us.getD ic undef).cells.toList) ∧ FactsF us w (k + 1) cs
  | k, _ :: cs => FactsF us w (k + 1) cs
  | _, [] => True
def EndF (W : World) (K : List Value → Prop) : List Value → List Fcl → Prop
  | us, .val v _ :: cs => EndF W K (us ++ [v]) cs
  | us, .any _ _ _ :: cs => ∀ u, EndF W K (us ++ [u]) cs
  | us, .new _ _ :: cs => ∀ b, W.heap.size ≤ b → EndF W K (us ++ [.pointer (some ⟨b, 0, none⟩)]) cs
  | us, .put _ _ _ _ _ :: cs => EndF W K (us ++ [undef]) cs
  | us, .old _ _ _ _ _ _ _ :: cs => EndF W K (us ++ [undef]) cs
  | us, .skip :: cs => EndF W K (us ++ [undef]) cs
  | us, [] => K us
def newAt (cl : List Fcl) (i : Nat) : Bool := match cl[i]? with
  | some (.new _ _) => true
  | _ => false

def ApartF (M : Value → Nat → Prop) (cl : List Fcl) (us : List Value) : Prop := ∀ i j, mineAt cl i = true → mineAt cl j = true → i ≠ j → ∀ g, M (us.getD i undef) g → ¬ M (us.getD j undef) g
def TopF (M : Value → Nat → Prop) (lo : Nat) (cl : List Fcl) (us : List Value) (w : World) : Prop := ∀ i, mineAt cl i = true → ∀ g, M (us.getD i undef) g → lo ≤ g ∧ g < w.heap.size
def NewF (cl : List Fcl) (us : List Value) : Prop := ∀ i j, newAt cl i = true → newAt cl j = true → i ≠ j → us.getD i undef ≠ us.getD j undef
def OnlyF (cl : List Fcl) (W w : World) : Prop := ∀ g, g < W.heap.size → g ∉ oldsF cl → w.heap[g]? = W.heap[g]?
structure EndN (cl : List Fcl) (us : List Value) (W w : World) : Prop where
  new : NewF cl us
  only : OnlyF cl W w
theorem back_of {e : Edge} {i : Nat} (h : (!Region.binds .any e || decide (e.on < i)) = true) (hb : Region.binds .any e = true) : e.on < i := by
  rw [hb] at h
  simpa using h
def FitsAt (cl : List Fcl) (us : Nat → Value) (j : Nat) : Prop := match cl[j]? with
  | some (.val v _) => us j = v
  | some (.any _ _ _) => True
  | some (.new _ _) => ∃ b, us j = .pointer (some ⟨b, 0, none⟩)
  | _ => us j = undef

structure FI (ops : Array Oper) (cl : List Fcl) (a0 : Act) (B : Nat) (Ts : List TypeId) (W : World) (M : Value → Nat → Prop) (us : Nat → Value) (L : Array Bool) (a : Act) (w : World) : Prop where
  defers : a.defers = a0.defers
  size : a.tmps.size = a0.tmps.size
  out : ∀ t, (∀ (i : Nat) o, ops[i]? = some o → L.getD i false = true → o.dst ≠ some t) → a.tmps[t]? = a0.tmps[t]?
  inn : ∀ (i : Nat) o d, ops[i]? = some o → L.getD i false = true → o.dst = some d → a.tmps[d]? = some (us i)
  fits : ∀ j, FitsAt cl us j
  below : Below B W w
  kept : KeptV B Ts W w
  closed : ∀ (i : Nat) o, ops[i]? = some o → L.getD i false = true → ∀ e ∈ o.after, Region.binds .any e = true → L.getD e.on false = true
  told : ∀ (i : Nat) m Φ ds, cl[i]? = some (.any m Φ ds) → L.getD i false = true → Φ (us i) w
  top : ∀ i, mineAt cl i = true → L.getD i false = true → ∀ g, M (us i) g → W.heap.size ≤ g ∧ g < w.heap.size
  apart : ∀ i j, mineAt cl i = true → mineAt cl j = true → i ≠ j → L.getD i false = true → L.getD j false = true → ∀ g, M (us i) g → ¬ M (us j) g
  new : ∀ (i : Nat) T n, cl[i]? = some (.new T n) → L.getD i false = true → ∃ b, us i = .pointer (some ⟨b, 0, none⟩) ∧ W.heap.size ≤ b ∧ ∃ cs, Blk w b T cs ∧ cs.size = n
  news : ∀ i j, newAt cl i = true → newAt cl j = true → i ≠ j → L.getD i false = true → L.getD j false = true → us i ≠ us j
  put : ∀ (i : Nat) T n ia ic ds, cl[i]? = some (.put T n ia ic ds) → L.getD i false = true → L.getD ia false = true ∧ L.getD ic false = true ∧ ∃ b, us ia = .pointer (some ⟨b, 0, none⟩) ∧ Blk w b T (us ic).cells
  old : ∀ (i : Nat) b T cs o n ic ds, cl[i]? = some (.old b T cs o n ic ds) → (L.getD i false = true → L.getD ic false = true ∧ Blk w b T (setAll cs o (us ic).cells.toList)) ∧ (L.getD i false = false → Blk w b T cs)
  only : ∀ g, g < W.heap.size → g ∉ oldsF cl → w.heap[g]? = W.heap[g]?

def fupd (us : Nat → Value) (i : Nat) (u : Value) : Nat → Value := fun j => if j = i then u else us j
section
variable {cl : List Fcl} {a0 : Act} {B : Nat} {Ts : List TypeId} {W : World} {M : Value → Nat → Prop} {us : Nat → Value} {L : Array Bool} {a : Act} {w : World}
theorem FI.tmps {i : Nat} {o : Oper} (h : FI ops cl a0 B Ts W M us L a w) (hi : ops[i]? = some o) (hL : i < L.size) (hun : L.getD i false = false)
    (hdist : ∀ (i j : Nat) oi oj d, ops[i]? = some oi → ops[j]? = some oj → oi.dst = some d → oj.dst = some d → i = j) (hroom : ∀ (i : Nat) o d, ops[i]? = some o → o.dst = some d → d < a0.tmps.size)
    (v : Value) (us' : Nat → Value) (hus : ∀ j, j ≠ i → us' j = us j) (hv : ∀ d, o.dst = some d → v = us' i) :
    (a.put o.dst v).defers = a0.defers ∧ (a.put o.dst v).tmps.size = a0.tmps.size ∧
    (∀ t, (∀ (k : Nat) ok, ops[k]? = some ok → (L.setIfInBounds i true).getD k false = true → ok.dst ≠ some t) → (a.put o.dst v).tmps[t]? = a0.tmps[t]?) ∧
    (∀ (k : Nat) ok d, ops[k]? = some ok → (L.setIfInBounds i true).getD k false = true → ok.dst = some d → (a.put o.dst v).tmps[d]? = some (us' k)) := by
  refine ⟨?_, ?_, fun t ht => ?_, fun k ok d hk hLk hd => ?_⟩
  · cases hd : o.dst <;> simp [Act.put, h.defers]
  · cases hd : o.dst <;> simp [Act.put, h.size]
  · have h1 := ht i o hi ((getD_set_iff hL).2 (.inl rfl))
    have h2 := h.out t fun k ok hk hLk => ht k ok hk ((getD_set_iff hL).2 (.inr hLk))
    cases hd : o.dst with
    | none => exact h2
    | some d =>
      rw [← h2]
      simp only [Act.put]
      exact Array.getElem?_setIfInBounds_ne (fun e => h1 (by rw [hd, e]))
  · rcases (getD_set_iff hL).1 hLk with rfl | hLk2
    · rw [hi] at hk; injection hk with hk; subst hk
      rw [hd, ← hv d hd]
      have := hroom k o d hi hd
      simp [Act.put, h.size, this]
    · have hne : k ≠ i := fun e => by rw [e, hun] at hLk2; cases hLk2
      rw [hus k hne, ← h.inn k ok d hk hLk2 hd]
      cases hdo : o.dst with
      | none => rfl
      | some d' =>
        simp only [Act.put]
        exact Array.getElem?_setIfInBounds_ne (fun e => hne (hdist k i ok o d hk hi hd (by rw [hdo, e])))
theorem FI.eval {i : Nat} {o : Oper} {c : Fcl} (h : FI ops cl a0 B Ts W M us L a w) (hi : ops[i]? = some o) (hc : cl[i]? = some c) (hns : c.isSkip = false) (hreads : readsF ops cl = true) (hdst : (ops.toList.filterMap (·.dst)).Nodup)
    (hback : (ops.toList.zipIdx.all fun (o, i) => o.after.all fun e => !Region.binds .any e || decide (e.on < i)) = true)
    (hroom : ∀ (i : Nat) o d, ops[i]? = some o → o.dst = some d → d < a0.tmps.size) (hp : ∀ e ∈ o.after, Region.binds .any e = true → L.getD e.on false = true)
    (l : List Value) (hl : ∀ j, j < i → l.getD j undef = us j) :
    (∀ cs b, o.op ≠ .select cs b) ∧ ∀ x ∈ o.op.operands, a.eval x = (freeAct ops a0 l).eval x := by
  have hlt : i < ops.size := (Array.getElem?_eq_some_iff.1 hi).1
  have h1 := List.all_eq_true.1 hreads i (List.mem_range.2 hlt)
  simp only [hi, hc, hns, Bool.false_or, Bool.and_eq_true] at h1
  obtain ⟨hsel, hops⟩ := h1
  refine ⟨fun cs b e => by rw [e] at hsel; simp at hsel, fun x hx => ?_⟩
  rw [Array.all_eq_true_iff_forall_mem] at hops
  have h2 := hops x hx
  cases x with
  | tmp t =>
    simp only [Bool.or_eq_true] at h2
    rcases h2 with h2 | h2
    · rw [Array.all_eq_true_iff_forall_mem] at h2
      have hno : ∀ (k : Nat) ok, ops[k]? = some ok → ok.dst ≠ some t := fun k ok hk e => by
        have := h2 ok (Array.mem_of_getElem? hk)
        simp [e] at this
      have e1 := h.out t fun k ok hk _ => hno k ok hk
      have e2 := fill_other (pairs ops fun i => some (l.getD i undef)) t a0.tmps fun p hp e => by
        obtain ⟨k, ok, hk, hd, _⟩ := pairs_mem hp
        exact hno k ok hk (by rw [hd, e])
      show a.tmps.getD t undef = (freeAct ops a0 l).tmps.getD t undef
      rw [Array.getD_eq_getD_getElem?, Array.getD_eq_getD_getElem?, e1]
      exact (congrArg (fun x : Option Value => x.getD undef) e2).symm
    · rw [← Array.any_toList, List.any_eq_true] at h2
      obtain ⟨e, he, h3⟩ := h2
      rw [Array.mem_toList_iff] at he
      simp only [Bool.and_eq_true, beq_iff_eq] at h3
      obtain ⟨hb, hd⟩ := h3
      cases hoe : ops[e.on]? with
      | none => simp [hoe] at hd
      | some oe =>
        simp only [hoe, Option.bind_some] at hd
        have e1 := h.inn e.on oe t hoe (hp e he hb) hd
        have e2 := fill_at (pairs ops fun i => some (l.getD i undef)) (pairs_nodup _ hdst) t (l.getD e.on undef) a0.tmps (hroom _ _ _ hoe hd) (pairs_has hoe hd rfl)
        have hlt2 : e.on < i := by
          have h4 := List.all_eq_true.1 hback (o, i) (by rw [List.mem_zipIdx_iff_getElem?]; simpa using hi)
          simp only [Array.all_eq_true_iff_forall_mem] at h4
          exact back_of (h4 e he) hb
        rw [hl _ hlt2] at e2
        show a.tmps.getD t undef = (freeAct ops a0 l).tmps.getD t undef
        rw [Array.getD_eq_getD_getElem?, Array.getD_eq_getD_getElem?, e1]
        exact (congrArg (fun x : Option Value => x.getD undef) e2).symm
  | _ => rfl
end

def upTo (us : Nat → Value) (i : Nat) : List Value := (List.range i).map us
theorem upTo_succ (us : Nat → Value) (i : Nat) : upTo us (i + 1) = upTo us i ++ [us i] := by simp [upTo, List.range_succ]
def StepF (P : Program) (af : List Value → Act) (B : Nat) (Ts : List TypeId) (W : World) (M : Value → Nat → Prop) (cl : List Fcl) (us : List Value) (o : Oper) : Fcl → Prop
  | .val v ds => ∀ w, Below B W w → KeptV B Ts W w → DepF M cl us W w ds → o.wp P (af us) w (fun a' w' => a' = (af us).put o.dst v ∧ Below w.heap.size w w') (fun _ _ _ => False)
  | .any mine Φ ds => ∀ w, Below B W w → KeptV B Ts W w → DepF M cl us W w ds → o.wp P (af us) w (fun a' w' => ∃ u, a' = (af us).put o.dst u ∧ Φ u w' ∧ Below w.heap.size w w' ∧ (mine = true → ∀ g, M u g → w.heap.size ≤ g ∧ g < w'.heap.size)) (fun _ _ _ => False)
  | .new T n => AllocF P o T n
  | .put _ n ia ic ds => StoreF P (af us) o (us.getD ia undef) (us.getD ic undef) n ∧ ∀ w, Below B W w → KeptV B Ts W w → DepF M cl us W w (ic :: ds) → CellsN (us.getD ic undef) n
  | .old b _ _ k n ic ds => StoreF P (af us) o (.pointer (some ⟨b, k, none⟩)) (us.getD ic undef) n ∧ ∀ w, Below B W w → KeptV B Ts W w → DepF M cl us W w (ic :: ds) → CellsN (us.getD ic undef) n
  | .skip => True
theorem StepsF.get {af : List Value → Act} {B : Nat} {Ts : List TypeId} {W : World} {M : Value → Nat → Prop} {cl : List Fcl} {us : Nat → Value} : ∀ (os : List Oper) (cs : List Fcl) (k : Nat), (∀ j, cs[j]? = cl[k + j]?) → (∀ j, FitsAt cl us j) → StepsF P af B Ts W M cl (upTo us k) os cs → ∀ (i : Nat) o c, os[i]? = some o → cs[i]? = some c → StepF P af B Ts W M cl (upTo us (k + i)) o c
  | [], _, _, _, _, _, i, o, c, h1, _ => by simp at h1
  | _ :: _, [], _, _, _, _, i, o, c, _, h2 => by simp at h2
  | o' :: os, c' :: cs, k, hcs, hfit, h, i, o, c, h1, h2 => by
    have hk : cl[k]? = some c' := by have := hcs 0; simpa using this.symm
    have hf := hfit k
    unfold FitsAt at hf
    rw [hk] at hf
    have key : StepF P af B Ts W M cl (upTo us k) o' c' ∧ StepsF P af B Ts W M cl (upTo us (k + 1)) os cs := by
      rw [upTo_succ]
      cases c' with
      | val v ds => simp only at hf; rw [hf]; exact h
      | any m Φ ds => exact ⟨h.1, h.2 _⟩
      | new T n => obtain ⟨b, hb⟩ := hf; rw [hb]; exact ⟨h.1, h.2 b⟩
      | put T n ia ic ds => simp only at hf; rw [hf]; exact ⟨⟨h.1, h.2.1⟩, h.2.2⟩
      | old b T cs0 o n ic ds => simp only at hf; rw [hf]; exact ⟨⟨h.1, h.2.1⟩, h.2.2⟩
      | skip => simp only at hf; rw [hf]; exact ⟨trivial, h⟩
    cases i with
    | zero => simp at h1 h2; subst h1 h2; exact key.1
    | succ i =>
      have := StepsF.get os cs (k + 1) (fun j => by have := hcs (j + 1); simpa [Nat.add_assoc, Nat.add_comm 1 j] using this) hfit key.2 i o c (by simpa using h1) (by simpa using h2)
      rwa [show k + 1 + i = k + (i + 1) by omega] at this
theorem EndF.get {W : World} {K : List Value → Prop} {cl : List Fcl} {us : Nat → Value} : ∀ (cs : List Fcl) (k : Nat), (∀ j, cs[j]? = cl[k + j]?) → (∀ j, FitsAt cl us j) → (∀ (j : Nat) T n b, cl[j]? = some (.new T n) → us j = .pointer (some ⟨b, 0, none⟩) → W.heap.size ≤ b) → EndF W K (upTo us k) cs → K (upTo us (k + cs.length))
  | [], k, _, _, _, h => h
  | c :: cs, k, hcs, hfit, hnew, h => by
    have hk : cl[k]? = some c := by have := hcs 0; simpa using this.symm
    have hf := hfit k
    unfold FitsAt at hf
    rw [hk] at hf
    have key : EndF W K (upTo us (k + 1)) cs := by
      rw [upTo_succ]
      cases c with
      | val v ds => simp only at hf; rw [hf]; exact h
      | any m Φ ds => exact h _
      | new T n => obtain ⟨b, hb⟩ := hf; rw [hb]; exact h b (hnew k T n b hk hb)
      | put T n ia ic ds => simp only at hf; rw [hf]; exact h
      | old b T cs0 o n ic ds => simp only at hf; rw [hf]; exact h
      | skip => simp only at hf; rw [hf]; exact h
    have := EndF.get cs (k + 1) (fun j => by have := hcs (j + 1); simpa [Nat.add_assoc, Nat.add_comm 1 j] using this) hfit hnew key
    rwa [show k + 1 + cs.length = k + (c :: cs).length by simp; omega] at this
theorem StableF.get {B : Nat} {Ts : List TypeId} : ∀ (cs : List Fcl), StableF B Ts cs → ∀ (i : Nat) m Φ ds, cs[i]? = some (.any m Φ ds) → ∀ u w w', Φ u w → KeptV B Ts w w' → Φ u w'
  | [], _, i, _, _, _, h => by simp at h
  | c :: cs, hst, i, m, Φ, ds, h => by
    cases i with
    | zero => simp at h; subst h; exact hst.1
    | succ i =>
      have hst' : StableF B Ts cs := by cases c <;> first | exact hst.2 | exact hst
      exact StableF.get cs hst' i m Φ ds (by simpa using h)
theorem OldsF.get {B : Nat} {W w0 : World} : ∀ (cs : List Fcl), OldsF B W w0 cs → ∀ (i : Nat) b T c o n ic ds, cs[i]? = some (.old b T c o n ic ds) → B ≤ b ∧ b < W.heap.size ∧ Blk w0 b T c ∧ o + n ≤ c.size
  | [], _, i, _, _, _, _, _, _, _, h => by simp at h
  | c :: cs, hst, i, b, T, c0, o, n, ic, ds, h => by
    cases i with
    | zero => simp at h; subst h; exact hst.1
    | succ i =>
      have hst' : OldsF B W w0 cs := by cases c <;> first | exact hst.2 | exact hst
      exact OldsF.get cs hst' i b T c0 o n ic ds (by simpa using h)
theorem DepF.of {M : Value → Nat → Prop} {cl : List Fcl} {us : List Value} {W w : World} (hO : ∀ g, g < W.heap.size → g ∉ oldsF cl → w.heap[g]? = W.heap[g]?) : ∀ (ds : List Nat), (∀ j ∈ ds, j < 999 → ∀ m Φ ds', cl[j]? = some (.any m Φ ds') → Φ (us.getD j undef) w) → (∀ j ∈ ds, 1000 ≤ j → j < 1000000 → ∀ b T cs o n ic ds', cl[j - 1000]? = some (.old b T cs o n ic ds') → Blk w b T cs) → (∀ j ∈ ds, 1000000 ≤ j → ∀ g, M (us.getD ((j - 1000000) / 1000) undef) g → ¬ M (us.getD ((j - 1000000) % 1000) undef) g) → DepF M cl us W w ds
  | [], _, _, _ => trivial
  | j :: js, h, g, q => by
    refine ⟨?_, DepF.of hO js (fun k hk => h k (by simp [hk])) (fun k hk => g k (by simp [hk])) fun k hk => q k (by simp [hk])⟩
    by_cases hj3 : 1000000 ≤ j
    · rw [if_pos hj3]; exact q j (by simp) hj3
    rw [if_neg hj3]
    by_cases hj : 1000 ≤ j
    · rw [if_pos hj]
      split
      · rename_i b T cs o n ic ds' e; exact g j (by simp) hj (by omega) b T cs o n ic ds' e
      · trivial
    · rw [if_neg hj]
      by_cases hj2 : j = 999
      · rw [if_pos hj2]; exact hO
      · rw [if_neg hj2]
        split
        · rename_i m Φ ds' e; exact h j (by simp) (by omega) m Φ ds' e
        · trivial
theorem FactsF.of {us : List Value} {w : World} {cl : List Fcl} (h1 : ∀ (i : Nat) m Φ ds, cl[i]? = some (.any m Φ ds) → Φ (us.getD i undef) w) (h2 : ∀ (i : Nat) T n ia ic ds, cl[i]? = some (.put T n ia ic ds) → ∃ b, us.getD ia undef = .pointer (some ⟨b, 0, none⟩) ∧ Blk w b T (us.getD ic undef).cells)
    (h3 : ∀ (i : Nat) b T c o n ic ds, cl[i]? = some (.old b T c o n ic ds) → Blk w b T (setAll c o (us.getD ic undef).cells.toList)) : ∀ (cs : List Fcl) (k : Nat), (∀ j, cs[j]? = cl[k + j]?) → FactsF us w k cs
  | [], _, _ => trivial
  | c :: cs, k, hcs => by
    have hk : cl[k]? = some c := by have := hcs 0; simpa using this.symm
    have ih := FactsF.of h1 h2 h3 cs (k + 1) (fun j => by have := hcs (j + 1); simpa [Nat.add_assoc, Nat.add_comm 1 j] using this)
    cases c with
    | any m Φ ds => exact ⟨h1 k m Φ ds hk, ih⟩
    | put T n ia ic ds => exact ⟨h2 k T n ia ic ds hk, ih⟩
    | old b T c o n ic ds => exact ⟨h3 k b T c o n ic ds hk, ih⟩
    | _ => exact ih

end
end Go.Proofs.YtbdliabfdplohaaDoor
