/- Several texts in one: TopL. -/
import Derived.Test.YtmcnmoljliggfaaGreatDoorBt33
set_option maxRecDepth 100000
set_option maxHeartbeats 8000000
/- What the laws of benches stand on. (Written by wip/top/gentopl.py.) -/
namespace Go.Proofs.YtmcnmoljliggfaaGreatDoor
open Go.RowKit

theorem wpList_load_rowG {P : Program} {ops : Array Oper} {rest : List Oper} {o : Oper} {a : Act} {w : World} {Q : Exit → Act → World → Prop} (hw : Region.wanted o (yielded ops a.tmps) = true) (ty : TypeId) (x : Operand) (ho : o.op = .load ty x)
    (g : Nat) (hx : a.eval x = .pointer (some ⟨g, 0, none⟩)) (t : TypeId) (cs : Array Value) (fr : Nat × Nat) (d : TypeDesc) (hg : w.heap[g]? = some (.cells cs t fr))
    (hu : P.underlying ty = some d) (hd : (match d with | .struct _ | .array _ _ => true | _ => false) = true) (hi : (P.info? ty).map (·.size) = some cs.size)
    (h : wpList P ops Q rest (a.put o.dst (.agg cs)) w) : wpList P ops Q (o :: rest) a w :=
  BigFrame.wpList_want hw fun _ hK => wp_load_row ty x ho g hx t cs fr d hg hu hd hi (hK _ _ h)
structure RRaw where
  y : FRaw
  u : FRaw
def RRaw.cells (r : RRaw) : List Value := [.bool r.y.n1, .slice r.y.A r.y.xs.length r.y.c, .bool r.y.n2, .slice r.y.B r.y.ys.length r.y.e, .bool r.u.n1, .slice r.u.A r.u.xs.length r.u.c, .bool r.u.n2, .slice r.u.B r.u.ys.length r.u.e]
def RRaw.val (r : RRaw) : Value := .agg #[.bool r.y.n1, .slice r.y.A r.y.xs.length r.y.c, .bool r.y.n2, .slice r.y.B r.y.ys.length r.y.e, .bool r.u.n1, .slice r.u.A r.u.xs.length r.u.c, .bool r.u.n2, .slice r.u.B r.u.ys.length r.u.e]
def RRaw.In (r : RRaw) (w : World) : Prop := r.y.In w ∧ r.u.In w
theorem RRaw.In.below {r : RRaw} {w w' : World} (h : r.In w) (hb : Below w.heap.size w w') : r.In w' := ⟨h.1.below hb, h.2.below hb⟩
theorem RRaw.In.raw {r : RRaw} {w : World} (h : r.In w) : GaussRaw w (.agg #[.bool r.y.n1, .slice r.y.A r.y.xs.length r.y.c, .bool r.y.n2, .slice r.y.B r.y.ys.length r.y.e, .bool r.u.n1, .slice r.u.A r.u.xs.length r.u.c, .bool r.u.n2, .slice r.u.B r.u.ys.length r.u.e]) r.y.n1 r.y.n2 r.u.n1 r.u.n2 r.y.xs r.y.ys r.u.xs r.u.ys := ⟨_, _, _, _, _, _, _, _, rfl, h.1.1, h.1.2, h.2.1, h.2.2⟩
def RRaw.small (r : RRaw) : Prop := r.y.small ∧ r.u.small
def RRaw.cost (r : RRaw) : Nat := fcost r.y.xs.length r.y.ys.length + fcost r.u.xs.length r.u.ys.length
def RRaw.may (r : RRaw) : Bool := r.y.may && r.u.may
def RRaw.rat (r : RRaw) : Rat × Rat := (r.y.rat, r.u.rat)
theorem FRaw.fineQ {q : FRaw} (hx : Limbs q.xs) (hy : Limbs q.ys) (h : q.may = true) : FineQ q.rat ∧ q.n1 = decide (q.rat.num < 0) ∧ q.n2 = decide ((q.rat.den : Int) < 0) ∧ q.xs = natL q.rat.num.natAbs ∧ q.ys = natL (q.rat.den : Int).natAbs := by
  obtain ⟨F, h1, h2, h3, h4⟩ := FRaw.fine hx hy h
  have i := fine_is F
  unfold FRaw.rat
  have e1 : (Rat.divInt q.num q.den).num = q.num := i.num
  have e2 : ((Rat.divInt q.num q.den).den : Int) = q.den := i.den
  unfold FineQ
  rw [e1, e2]
  exact ⟨F, h1, h2, h3, h4⟩
theorem RRaw.at_ {r : RRaw} {w : World} (h : r.In w) (hm : r.may = true) : FineR r.rat ∧ RAt w (.agg #[.bool r.y.n1, .slice r.y.A r.y.xs.length r.y.c, .bool r.y.n2, .slice r.y.B r.y.ys.length r.y.e, .bool r.u.n1, .slice r.u.A r.u.xs.length r.u.c, .bool r.u.n2, .slice r.u.B r.u.ys.length r.u.e]) r.rat := by
  unfold RRaw.may at hm
  rw [Bool.and_eq_true] at hm
  obtain ⟨f1, a1, a2, a3, a4⟩ := FRaw.fineQ h.1.1.limbs h.1.2.limbs hm.1
  obtain ⟨f2, b1, b2, b3, b4⟩ := FRaw.fineQ h.2.1.limbs h.2.2.limbs hm.2
  refine ⟨⟨f1, f2⟩, ?_⟩
  have g := h.raw
  rw [a1, a2, b1, b2, a3, a4, b3, b4] at g
  have r1 := h.1.1
  have r2 := h.1.2
  have r3 := h.2.1
  have r4 := h.2.2
  rw [a3] at r1
  rw [a4] at r2
  rw [b3] at r3
  rw [b4] at r4
  rw [a1, a2, b1, b2, a3, a4, b3, b4]
  exact ⟨_, _, _, _, _, _, _, _, rfl, r1, r2, r3, r4⟩
structure LRaw where
  A : Option Addr
  c : Nat
  l : List ERaw
  r : RRaw
  s : RRaw
def LRaw.cells (x : LRaw) : Array Value := #[.slice x.A x.l.length x.c, .bool x.r.y.n1, .slice x.r.y.A x.r.y.xs.length x.r.y.c, .bool x.r.y.n2, .slice x.r.y.B x.r.y.ys.length x.r.y.e, .bool x.r.u.n1, .slice x.r.u.A x.r.u.xs.length x.r.u.c, .bool x.r.u.n2, .slice x.r.u.B x.r.u.ys.length x.r.u.e, .bool x.s.y.n1, .slice x.s.y.A x.s.y.xs.length x.s.y.c, .bool x.s.y.n2, .slice x.s.y.B x.s.y.ys.length x.s.y.e, .bool x.s.u.n1, .slice x.s.u.A x.s.u.xs.length x.s.u.c, .bool x.s.u.n2, .slice x.s.u.B x.s.u.ys.length x.s.u.e]
structure LightS (W w : World) (bx : Nat) (x : LRaw) : Prop where
  blk : Blk w bx 31 x.cells
  bench : BenchIn w w.heap.size x.A x.l
  r : x.r.In w
  s : x.s.In w
  tab : powTab w
  hb : Below W.heap.size W w
theorem LightS.below {W w w' : World} {bx : Nat} {x : LRaw} (h : LightS W w bx x) (hb : Below w.heap.size w w') : LightS W w' bx x := ⟨h.blk.below hb h.blk.lt, h.bench.to hb, h.r.below hb, h.s.below hb, h.tab.below2 hb, belowTo h.hb hb⟩
theorem LightS.ray {W w : World} {bx : Nat} {x : LRaw} (h : LightS W w bx x) : w.rangeAt bx 1 x.r.cells := fun j v hv => by
  have h1 := h.blk.cell (1 + j)
  rw [h1]
  have hj : j < 8 := (List.getElem?_eq_some_iff.1 hv).1
  unfold RRaw.cells at hv
  unfold LRaw.cells
  rw [← hv]
  match j, hj with
  | 0, _ => rfl
  | 1, _ => rfl
  | 2, _ => rfl
  | 3, _ => rfl
  | 4, _ => rfl
  | 5, _ => rfl
  | 6, _ => rfl
  | 7, _ => rfl
structure VarM (w : World) (g : Nat) (v : Value) (n1 d1 n2 d2 n3 d3 n4 d4 : Int) : Prop where
  blk : Blk w g 38 v.cells
  in_ : MatIn w v n1 d1 n2 d2 n3 d3 n4 d4
section
variable {w w' : World} {g : Nat} {v : Value} {n1 d1 n2 d2 n3 d3 n4 d4 : Int}
theorem VarM.below (h : VarM w g v n1 d1 n2 d2 n3 d3 n4 d4) (hb : Below w.heap.size w w') : VarM w' g v n1 d1 n2 d2 n3 d3 n4 d4 := ⟨h.blk.below hb h.blk.lt, h.in_.below hb⟩
theorem MatIn.isagg (h : MatIn w v n1 d1 n2 d2 n3 d3 n4 d4) : ∃ cs : Array Value, v = .agg cs := by
  obtain ⟨A0, c0, A1, c1, A2, c2, A3, c3, A4, c4, A5, c5, A6, c6, A7, c7, rfl, -⟩ := h.form
  exact ⟨_, rfl⟩
theorem MatIn.agg (h : MatIn w v n1 d1 n2 d2 n3 d3 n4 d4) : (.agg v.cells : Value) = v := by
  obtain ⟨A0, c0, A1, c1, A2, c2, A3, c3, A4, c4, A5, c5, A6, c6, A7, c7, rfl, -⟩ := h.form
  rfl
theorem VarM.at_ (h : VarM w g v n1 d1 n2 d2 n3 d3 n4 d4) : MatAt w (.agg v.cells) n1 d1 n2 d2 n3 d3 n4 d4 := by
  rw [h.in_.agg]
  exact h.in_.at_
theorem VarM.size (h : VarM w g v n1 d1 n2 d2 n3 d3 n4 d4) : v.cells.size = 16 := h.in_.cells.1
end
structure VarR (w : World) (g : Nat) (v : Value) (n1 d1 n2 d2 : Int) : Prop where
  blk : Blk w g 29 v.cells
  in_ : GaussIn w v n1 d1 n2 d2
section
variable {w w' : World} {g : Nat} {v : Value} {n1 d1 n2 d2 : Int}
theorem VarR.below (h : VarR w g v n1 d1 n2 d2) (hb : Below w.heap.size w w') : VarR w' g v n1 d1 n2 d2 := ⟨h.blk.below hb h.blk.lt, h.in_.below hb⟩
theorem GaussIn.isagg (h : GaussIn w v n1 d1 n2 d2) : ∃ cs : Array Value, v = .agg cs := by
  obtain ⟨A0, c0, A1, c1, A2, c2, A3, c3, rfl, -⟩ := h.form
  exact ⟨_, rfl⟩
theorem GaussIn.agg (h : GaussIn w v n1 d1 n2 d2) : (.agg v.cells : Value) = v := by
  obtain ⟨A0, c0, A1, c1, A2, c2, A3, c3, rfl, -⟩ := h.form
  rfl
theorem VarR.at_ (h : VarR w g v n1 d1 n2 d2) : GaussAt w (.agg v.cells) n1 d1 n2 d2 := by
  rw [h.in_.agg]
  exact h.in_.at_
theorem VarR.size (h : VarR w g v n1 d1 n2 d2) : v.cells.size = 8 := h.in_.cells.1
end
structure VarF (w : World) (g : Nat) (v : Value) (n d : Int) : Prop where
  blk : Blk w g 27 v.cells
  in_ : FracIn w 0 v n d
section
variable {w w' : World} {g : Nat} {v : Value} {n d : Int}
end
theorem newM {V w : World} {z : Array Value} {v : Value} {n1 d1 n2 d2 n3 d3 n4 d4 : Int} (h : MatIn V v n1 d1 n2 d2 n3 d3 n4 d4) (p : PutN (V.alloc (.cells z 38)) V.heap.size 38 v w) : Below V.heap.size V w ∧ VarM w V.heap.size v n1 d1 n2 d2 n3 d3 n4 d4 := by
  have hb := p.below ((Below.refl V.heap.size V).alloc (Nat.le_refl _) (.cells z 38)) (Nat.le_refl _)
  exact ⟨hb, p.blk, h.below hb⟩
theorem newR {V w : World} {z : Array Value} {v : Value} {n1 d1 n2 d2 : Int} (h : GaussIn V v n1 d1 n2 d2) (p : PutN (V.alloc (.cells z 29)) V.heap.size 29 v w) : Below V.heap.size V w ∧ VarR w V.heap.size v n1 d1 n2 d2 := by
  have hb := p.below ((Below.refl V.heap.size V).alloc (Nat.le_refl _) (.cells z 29)) (Nat.le_refl _)
  exact ⟨hb, p.blk, h.below hb⟩
structure BenchA (l : List ERaw) (n1 d1 n2 d2 n3 d3 n4 d4 k : Int) : Prop where
  con : ∀ (V : World) (A : Option Addr) (c : Nat), BenchIn V V.heap.size A l → Calls Tryz.prog 11 #[.slice A l.length c] V (RetMatIn2 V n1 d1 n2 d2 n3 d3 n4 d4 k)
  ok : k = 0 → FineM (benchM (l.map ERaw.el)) ∧ n1 = (benchM (l.map ERaw.el)).a.num ∧ d1 = (benchM (l.map ERaw.el)).a.den ∧ n2 = (benchM (l.map ERaw.el)).b.num ∧ d2 = (benchM (l.map ERaw.el)).b.den ∧ n3 = (benchM (l.map ERaw.el)).c.num ∧ d3 = (benchM (l.map ERaw.el)).c.den ∧ n4 = (benchM (l.map ERaw.el)).d.num ∧ d4 = (benchM (l.map ERaw.el)).d.den
theorem bench_any (l : List ERaw) (hl : l.length ≤ 9223372036854775807) (hs : sumL l ≤ 2000000) : ∃ n1 d1 n2 d2 n3 d3 n4 d4 k : Int, BenchA l n1 d1 n2 d2 n3 d3 n4 d4 k := by
  by_cases hk : chkB l ERaw.may = 0
  · cases hz : longZ (numsM (benchM (l.map ERaw.el))) with
    | false => exact ⟨_, _, _, _, _, _, _, _, 0, fun V A c hb => bmat_ok l A c V hl hb hk hs hz, fun _ => ⟨fineM_of hz (benchM_det _), rfl, rfl, rfl, rfl, rfl, rfl, rfl, rfl⟩⟩
    | true => exact ⟨0, 0, 0, 0, 0, 0, 0, 0, 4, fun V A c hb => bmat_long l A c V hl hb hk hs hz, fun h => absurd h (by decide)⟩
  · exact ⟨0, 0, 0, 0, 0, 0, 0, 0, chkB l ERaw.may, fun V A c hb => bmat_bad l A c V hl hb rfl hk, fun h => absurd h hk⟩
structure RayA_ (q : Rat × Rat) (n1 d1 n2 d2 k : Int) : Prop where
  ok : k = 0 → FineR q ∧ n1 = q.1.num ∧ d1 = q.1.den ∧ n2 = q.2.num ∧ d2 = q.2.den
theorem through_any (q : Rat × Rat) : ∃ n1 d1 n2 d2 k : Int, RayA_ q n1 d1 n2 d2 k ∧ ∀ (m : M2) (r : Rat × Rat), FineM m → FineR r → rayM m r = q → ∀ (V : World) (v1 v2 : Value), MAt V v1 m → RAt V v2 r → Calls Tryz.prog 15 #[v1, v2] V (RetGaussIn2 V n1 d1 n2 d2 k) := by
  cases hz : longZ (numsR q) with
  | false => exact ⟨_, _, _, _, 0, ⟨fun _ => ⟨fineR_of hz, rfl, rfl, rfl, rfl⟩⟩, fun m r F G e V v1 v2 g1 g2 => by
      have := through_ok F G (by rw [e]; exact hz) V v1 v2 g1 g2
      rw [e] at this
      exact this⟩
  | true => exact ⟨0, 0, 0, 0, 4, ⟨fun h => absurd h (by decide)⟩, fun m r F G e V v1 v2 g1 g2 => through_long F G (by rw [e]; exact hz) V v1 v2 g1 g2⟩
theorem sumL_cost (l : List ERaw) : l.length + (l.map ERaw.cost).sum ≤ 1048576 → sumL l ≤ 2000000 := by
  have key : ∀ l : List ERaw, sumL l ≤ (l.map ERaw.cost).sum := by
    intro l
    induction l with
    | nil => simp [sumL]
    | cons x l ih =>
      unfold sumL at ih ⊢
      rw [List.map_cons, List.map_cons, List.sum_cons, List.sum_cons]
      have : x.lens + 2 ≤ x.cost := by
        unfold ERaw.lens FRaw.lens ERaw.cost fcost
        omega
      omega
  have := key l
  omega
end Go.Proofs.YtmcnmoljliggfaaGreatDoor
