/- Rows of elements of the call's own; many-cell stores in a round. (Written by wip/top/genreve.py.) -/
import Derived.Test.YtmcnmoljliggfaaGreatDoorBvRevC
import Derived.Test.YtmcnmoljliggfaaGreatDoorBvChainIn
import Derived.RangeFuncNested
namespace Go.Proofs.YtmcnmoljliggfaaGreatDoor
open Go.RowKit

theorem noDefer_of {ops : Array Oper} (h : (ops.toList.all fun o => match o.op with | .defer _ => false | _ => true) = true) : ∀ (i : Nat) o, ops[i]? = some o → ∀ c, o.op ≠ .defer c := fun i o hi c e => by
  have := List.all_eq_true.1 h o (Array.mem_toList_iff.2 (Array.mem_of_getElem? hi))
  rw [e] at this
  cases this
theorem wpListIn_store_N {l n : Nat} {ops : Array Oper} {rest : List Oper} {o : Oper} {a : Act} {w : World} {Q : Exit → Act → World → Prop} (hgd : o.guard = none) (T : TypeId) (x y : Operand) (ho : o.op = .store T x y) (hd : o.dst = none)
    (g : Nat) (v : Value) (cs : Array Value) (k : Nat) (hx : a.eval x = .pointer (some ⟨g, 0, none⟩)) (hy : a.eval y = v) (hb : Blk w g T cs) (hs : cs.size = k) (hn : CellsN v k) (hi : (Tryz.prog.info? T).map (·.size) = some k)
    (hK : ∀ w', PutN w g T v w' → wpListIn (Fence.wide.inRound l) n Tryz.prog ops Q rest a w') : wpListIn (Fence.wide.inRound l) n Tryz.prog ops Q (o :: rest) a w := by
  have ht : w.there g 0 v.cells.size := by
    have := hb.there
    rwa [hs, ← hn.1] at this
  refine wpListIn_plain hgd fun K h9 => oper_in_round (fun c e => by rw [ho] at e; cases e) (wp_store_cells T x y ho g 0 v hx hy ht (by rw [hi, hn.1]) hn.2 (h9 _ _ ?_))
  rw [hd]
  refine hK _ ⟨?_, setCells_far g _ 0 w, fun B hB => KeptV.setCells hb (List.mem_singleton.2 rfl) hB 0 _, fun h hB => below_setCells hB _ _ _ h⟩
  have h1 := hb.setCells v.cells.toList 0
  rwa [setAll_all _ _ (hs.trans hn.1.symm)] at h1
/-- A turn of what is no cells. -/
def NC (w w' : World) (row : Option Nat) : Prop := w.grownBy w' row ∧ ∀ r, row = some r → ∃ o : Obj, w.heap[r]? = some o ∧ o.isCells = false
theorem own_nc {w w' : World} {row : Option Nat} {base size n : Nat} {e : TypeId} {v : Value} {xs : List Value} (h : w.ownsRow base e size v n xs) (k : NC w w' row) : w'.ownsRow base e size v n xs := by
  refine h.kept k.1 ?_
  rcases h.2 with ⟨rfl, _⟩ | ⟨g, cap, cur, rfl, _, hgb, _⟩
  · exact .inl rfl
  · refine .inr fun e' => ?_
    obtain ⟨o, ho, hc⟩ := k.2 g (by simpa [Value.ownBlock] using e'.symm)
    rw [hgb] at ho; cases ho; cases hc
theorem IntOwn.nc {w w' : World} {row : Option Nat} {base : Nat} {v : Value} {x : Int} (h : IntOwn w base v x) (k : NC w w' row) : IntOwn w' base v x := by
  obtain ⟨A, c, h1, h2, h3, h4⟩ := h.form
  exact ⟨A, c, h1, h2, h3, own_nc h4 k⟩
theorem FracIn.nc {w w' : World} {row : Option Nat} {base : Nat} {v : Value} {n d : Int} (h : FracIn w base v n d) (k : NC w w' row) : FracIn w' base v n d := by
  obtain ⟨A, c, B, e, h1, h2, h3⟩ := h.form
  exact ⟨A, c, B, e, h1, h2.nc k, h3.nc k⟩
theorem Blk.nc {w w' : World} {row : Option Nat} {g : Nat} {T : TypeId} {cs : Array Value} (h : Blk w g T cs) (k : NC w w' row) : Blk w' g T cs := by
  refine (k.1.block g h.lt fun e' => ?_).trans h
  obtain ⟨o, ho, hc⟩ := k.2 g e'.symm
  rw [show w.heap[g]? = _ from h] at ho; cases ho; cases hc
/-- Two elements that are one but for where their limbs lie. -/
structure SameE (y x : ERaw) : Prop where
  k : y.kind = x.kind
  p : y.p.n1 = x.p.n1 ∧ y.p.xs = x.p.xs ∧ y.p.n2 = x.p.n2 ∧ y.p.ys = x.p.ys
  q : y.q.n1 = x.q.n1 ∧ y.q.xs = x.q.xs ∧ y.q.n2 = x.q.n2 ∧ y.q.ys = x.q.ys
theorem SameE.facts {y x : ERaw} (h : SameE y x) : y.el = x.el ∧ y.may = x.may ∧ y.lens = x.lens := by
  rcases y with ⟨k, ⟨a1, a2, a3, a4, a5, a6, a7, a8⟩, ⟨b1, b2, b3, b4, b5, b6, b7, b8⟩⟩
  rcases x with ⟨k', ⟨c1, c2, c3, c4, c5, c6, c7, c8⟩, ⟨d1, d2, d3, d4, d5, d6, d7, d8⟩⟩
  obtain ⟨h1, ⟨h2, h3, h4, h5⟩, h6, h7, h8, h9⟩ := h
  simp only at h1 h2 h3 h4 h5 h6 h7 h8 h9
  subst h1 h2 h3 h4 h5 h6 h7 h8 h9
  exact ⟨rfl, rfl, rfl⟩
def CanE (x : ERaw) : Prop := (x.p.n1 = decide (x.p.num < 0) ∧ x.p.n2 = decide (x.p.den < 0) ∧ x.p.xs = natL x.p.num.natAbs ∧ x.p.ys = natL x.p.den.natAbs) ∧ (x.q.n1 = decide (x.q.num < 0) ∧ x.q.n2 = decide (x.q.den < 0) ∧ x.q.xs = natL x.q.num.natAbs ∧ x.q.ys = natL x.q.den.natAbs)
/-- An element that is copied. -/
structure EOk (w : World) (y x : ERaw) : Prop where
  same : SameE y x
  can : CanE x
  p : FracIn w 0 (.agg #[.bool y.p.n1, .slice y.p.A y.p.xs.length y.p.c, .bool y.p.n2, .slice y.p.B y.p.ys.length y.p.e]) x.p.num x.p.den
  q : FracIn w 0 (.agg #[.bool y.q.n1, .slice y.q.A y.q.xs.length y.q.c, .bool y.q.n2, .slice y.q.B y.q.ys.length y.q.e]) x.q.num x.q.den
theorem EOk.kept {B : Nat} {Ts : List TypeId} {w w' : World} {y x : ERaw} (h : EOk w y x) (k : KeptV B Ts w w') (hT : 109 ∉ Ts) : EOk w' y x := ⟨h.same, h.can, h.p.kept k hT, h.q.kept k hT⟩
theorem EOk.nc {w w' : World} {row : Option Nat} {y x : ERaw} (h : EOk w y x) (k : NC w w' row) : EOk w' y x := ⟨h.same, h.can, h.p.nc k, h.q.nc k⟩
theorem frac_raws {w : World} {q : FRaw} {n d : Int} (h : FracIn w 0 (.agg #[.bool q.n1, .slice q.A q.xs.length q.c, .bool q.n2, .slice q.B q.ys.length q.e]) n d) (h1 : q.xs = natL n.natAbs) (h2 : q.ys = natL d.natAbs) : q.In w := by
  obtain ⟨A, c, B, e, h3, h4, h5⟩ := h.form
  simp only [Value.agg.injEq, Array.mk.injEq, List.cons.injEq, Value.slice.injEq, and_true] at h3
  obtain ⟨-, ⟨e1, -, e2⟩, -, e3, -, e4⟩ := h3
  unfold FRaw.In
  rw [e1, e2, e3, e4, h1, h2]
  exact ⟨h4.rawAt, h5.rawAt⟩
theorem EOk.in_ {w : World} {y x : ERaw} (h : EOk w y x) : y.In w :=
  ⟨frac_raws h.p (h.same.p.2.1.trans h.can.1.2.2.1) (h.same.p.2.2.2.trans h.can.1.2.2.2), frac_raws h.q (h.same.q.2.1.trans h.can.2.2.2.1) (h.same.q.2.2.2.trans h.can.2.2.2.2)⟩
theorem ElIn.raw {w : World} {v : Value} {x : ERaw} (c : CanE x) (h : ElIn w v x.kind x.p.num x.p.den x.q.num x.q.den) : ∃ y : ERaw, v = y.val ∧ EOk w y x := by
  obtain ⟨P1, q1, P2, q2, P3, q3, P4, q4, rfl, h1, h2⟩ := h.form
  obtain ⟨⟨c1, c2, c3, c4⟩, c5, c6, c7, c8⟩ := id c
  rw [← c1, ← c2, ← c3, ← c4] at h1
  rw [← c5, ← c6, ← c7, ← c8] at h2
  refine ⟨⟨x.kind, ⟨x.p.n1, P1, q1, x.p.xs, x.p.n2, P2, q2, x.p.ys⟩, ⟨x.q.n1, P3, q3, x.q.xs, x.q.n2, P4, q4, x.q.ys⟩⟩, ?_, ⟨rfl, ⟨rfl, rfl, rfl, rfl⟩, rfl, rfl, rfl, rfl⟩, c, h1, h2⟩
  unfold ERaw.val
  rw [← c1, ← c2, ← c3, ← c4, ← c5, ← c6, ← c7, ← c8]
/-- Elements, one by one. -/
def EIs (w : World) : List ERaw → List ERaw → Prop
  | [], [] => True
  | y :: l, x :: xs => EOk w y x ∧ EIs w l xs
  | _, _ => False
theorem EIs.kept {B : Nat} {Ts : List TypeId} {w w' : World} (k : KeptV B Ts w w') (hT : 109 ∉ Ts) : ∀ {l xs : List ERaw}, EIs w l xs → EIs w' l xs
  | [], [], _ => trivial
  | _ :: _, _ :: _, h => ⟨h.1.kept k hT, EIs.kept k hT h.2⟩
theorem EIs.nc {w w' : World} {row : Option Nat} (k : NC w w' row) : ∀ {l xs : List ERaw}, EIs w l xs → EIs w' l xs
  | [], [], _ => trivial
  | _ :: _, _ :: _, h => ⟨h.1.nc k, EIs.nc k h.2⟩
theorem EIs.app {w : World} {y x : ERaw} (hq : EOk w y x) : ∀ {l xs : List ERaw}, EIs w l xs → EIs w (l ++ [y]) (xs ++ [x])
  | [], [], _ => ⟨hq, trivial⟩
  | _ :: _, _ :: _, h => ⟨h.1, EIs.app hq h.2⟩
theorem EIs.len {w : World} : ∀ {l xs : List ERaw}, EIs w l xs → l.length = xs.length
  | [], [], _ => rfl
  | c :: l, q :: qs, h => by rw [List.length_cons, List.length_cons, h.2.len]
theorem EIs.facts {w : World} : ∀ {l xs : List ERaw}, EIs w l xs → l.map ERaw.el = xs.map ERaw.el ∧ sumL l = sumL xs ∧ l.all ERaw.may = xs.all ERaw.may ∧ ∀ y ∈ l, y.In w
  | [], [], _ => ⟨rfl, rfl, rfl, fun y hy => by cases hy⟩
  | c :: l, q :: qs, h => by
    obtain ⟨h1, h2, h3, h4⟩ := h.2.facts
    obtain ⟨e1, e2, e3⟩ := h.1.same.facts
    refine ⟨by rw [List.map_cons, List.map_cons, h1, e1], ?_, by rw [List.all_cons, List.all_cons, h3, e2], fun y hy => ?_⟩
    · unfold sumL at h2 ⊢
      rw [List.map_cons, List.map_cons, List.sum_cons, List.sum_cons, h2, e3]
    · rcases List.mem_cons.1 hy with rfl | hy
      · exact h.1.in_
      · exact h4 y hy
/-- A list of elements of the call's own. -/
structure GrowE (w : World) (base : Nat) (v : Value) (es : List ERaw) : Prop where
  form : ∃ l : List ERaw, w.ownsRow base 65 9 v l.length (cellsEL l) ∧ EIs w l es
theorem GrowE.below {w w' : World} {base : Nat} {v : Value} {es : List ERaw} (h : GrowE w base v es) (hb : Below w.heap.size w w') : GrowE w' base v es := by
  obtain ⟨l, h1, h2⟩ := h.form
  exact ⟨l, own_below h1 hb, h2.kept (Ts := []) (KeptV.of_below (B := 0) hb) (by simp)⟩
theorem GrowE.nc {w w' : World} {row : Option Nat} {base : Nat} {v : Value} {es : List ERaw} (h : GrowE w base v es) (k : NC w w' row) : GrowE w' base v es := by
  obtain ⟨l, h1, h2⟩ := h.form
  exact ⟨l, own_nc h1 k, h2.nc k⟩
theorem GrowE.kept {B : Nat} {Ts : List TypeId} {w w' : World} {base : Nat} {v : Value} {es : List ERaw} (h : GrowE w base v es) (k : KeptV B Ts w w') (h1 : 109 ∉ Ts) (h2 : 65 ∉ Ts) : GrowE w' base v es := by
  obtain ⟨l, h3, h4⟩ := h.form
  exact ⟨l, k.own h3 h2, h4.kept k h1⟩
theorem GrowE.nil (w : World) (base : Nat) : GrowE w base (.slice none 0 0) [] := ⟨[], World.ownsRow_nil _ _ _ _, trivial⟩
theorem cellsEL_app (l : List ERaw) (q : ERaw) : cellsEL (l ++ [q]) = cellsEL l ++ q.cells := by
  unfold cellsEL
  rw [List.flatMap_append, List.flatMap_cons, List.flatMap_nil, List.append_nil]
theorem GrowE.more {w w' : World} {base : Nat} {v v' : Value} {y x : ERaw} {es : List ERaw} (hq : EOk w y x) {l : List ERaw} (h1 : w.ownsRow base 65 9 v l.length (cellsEL l)) (h2 : EIs w l es) (ho : w'.ownsRow base 65 9 v' (l.length + 1) (cellsEL l ++ y.cells)) (hg : w.grownBy w' v.ownBlock) : GrowE w' base v' (es ++ [x]) := by
  have k := kept_grown h1 hg
  refine ⟨l ++ [y], ?_, (h2.kept k (by decide)).app (hq.kept k (by decide))⟩
  rw [cellsEL_app, List.length_append, List.length_cons, List.length_nil]
  exact ho
/-- A bench. -/
theorem GrowE.bench {w : World} {base : Nat} {v : Value} {es : List ERaw} (h : GrowE w base v es) : ∃ A c, ∃ l : List ERaw, v = .slice A l.length c ∧ BenchIn w w.heap.size A l ∧ l.length = es.length ∧ l.map ERaw.el = es.map ERaw.el ∧ sumL l = sumL es ∧ l.all ERaw.may = es.all ERaw.may := by
  obtain ⟨l, h1, h2⟩ := h.form
  obtain ⟨A, c, rfl⟩ := own_form (by omega) h1
  obtain ⟨e1, e2, e3, e4⟩ := h2.facts
  exact ⟨A, c, l, rfl, ⟨Reads.of_own h1, Nat.le_refl _, e4⟩, h2.len, e1, e2, e3⟩
theorem canon_of {x : ERaw} {w : World} (hi : x.In w) (h : x.may = true) : CanE x ∧ lz x.p.num ≤ x.lens ∧ lz x.p.den ≤ x.lens ∧ lz x.q.num ≤ x.lens ∧ lz x.q.den ≤ x.lens := by
  unfold ERaw.may at h
  rw [Bool.and_eq_true, Bool.and_eq_true] at h
  obtain ⟨-, a1, a2, a3, a4⟩ := FRaw.fine hi.1.1.limbs hi.1.2.limbs h.1.1
  obtain ⟨-, b1, b2, b3, b4⟩ := FRaw.fine hi.2.1.limbs hi.2.2.limbs h.1.2
  refine ⟨⟨⟨a1, a2, a3, a4⟩, b1, b2, b3, b4⟩, ?_, ?_, ?_, ?_⟩ <;> unfold lz ERaw.lens FRaw.lens
  · rw [← a3]; omega
  · rw [← a4]; omega
  · rw [← b3]; omega
  · rw [← b4]; omega
end Go.Proofs.YtmcnmoljliggfaaGreatDoor
