/- Several texts in one: Oct, Hex, RowMat, OfEl, OfAll. -/
import Derived.Test.YtmcnmoljliggfaaGreatDoorBt22
set_option maxRecDepth 100000
set_option maxHeartbeats 8000000
/- Structs of two fractions: eight cells. What is known of them, wherever their limbs lie. -/
namespace Go.Proofs.YtmcnmoljliggfaaGreatDoor
open Go.RowKit

structure Oct (w : World) (g : Nat) (T : TypeId) (a b c d e f h i : Value) : Prop where
  blk : Blk w g T #[a, b, c, d, e, f, h, i]
section
variable {w w' : World} {g : Nat} {T : TypeId} {a b c d e f h i : Value}
theorem Oct.below (k : Oct w g T a b c d e f h i) (hb : Below w.heap.size w w') : Oct w' g T a b c d e f h i := ⟨k.blk.below hb k.blk.lt⟩
theorem Oct.facts (k : Oct w g T a b c d e f h i) : g < w.heap.size ∧ w.cell? ⟨g, 0, none⟩ = some a ∧ w.cell? ⟨g, 1, none⟩ = some b ∧ w.cell? ⟨g, 2, none⟩ = some c ∧ w.cell? ⟨g, 3, none⟩ = some d ∧
    w.cell? ⟨g, 4, none⟩ = some e ∧ w.cell? ⟨g, 5, none⟩ = some f ∧ w.cell? ⟨g, 6, none⟩ = some h ∧ w.cell? ⟨g, 7, none⟩ = some i :=
  ⟨k.blk.lt, k.blk.cell 0, k.blk.cell 1, k.blk.cell 2, k.blk.cell 3, k.blk.cell 4, k.blk.cell 5, k.blk.cell 6, k.blk.cell 7⟩
end
theorem IntOwn.other {w w' : World} {base g : Nat} {v : Value} {n : Int} {T : TypeId} {cs : Array Value} (hi : IntOwn w base v n) (hb : Blk w g T cs) (hT : 109 ≠ T) (hw : ∀ k, k ≠ g → w'.heap[k]? = w.heap[k]?) : IntOwn w' base v n := by
  obtain ⟨A', c', a1, a2, a3, a4⟩ := hi.form
  have hne := own_blk_ne a4 hb hT
  refine ⟨A', c', a1, a2, a3, a4.1, ?_⟩
  rcases a4.2 with p | ⟨g', cap, cur, p1, p2, p3, p4⟩
  · exact .inl p
  · refine .inr ⟨g', cap, cur, p1, p2, ?_, p4⟩
    have hg : g' ≠ g := fun e => by
      rw [p1] at hne
      exact hne (by simp [Value.ownBlock, e])
    rw [hw g' hg]
    exact p3
theorem FracIn.other {w w' : World} {base g : Nat} {v : Value} {n d : Int} {T : TypeId} {cs : Array Value} (h : FracIn w base v n d) (hb : Blk w g T cs) (hT : 109 ≠ T) (hw : ∀ k, k ≠ g → w'.heap[k]? = w.heap[k]?) : FracIn w' base v n d := by
  obtain ⟨A, c, B, e, h1, h2, h3⟩ := h.form
  exact ⟨A, c, B, e, h1, h2.other hb hT hw, h3.other hb hT hw⟩
theorem heap_same {w : World} {b : Nat} {T : TypeId} {v : Value} (hb : Blk w b T #[v]) (g : Nat) : (w.setCell ⟨b, 0, none⟩ v).heap[g]? = w.heap[g]? := by
  by_cases e : g = b
  · subst e
    have k : Blk (w.setCell ⟨g, 0, none⟩ v) g T #[v] := hb.set_ 0 v
    unfold Blk at hb k
    rw [hb, k]
  · exact Below.heap_setCell _ ⟨b, 0, none⟩ v g e
structure Cell1 (w : World) (b : Nat) (T : TypeId) (v : Value) : Prop where
  blk : Blk w b T #[v]
theorem Cell1.below {w w' : World} {b : Nat} {T : TypeId} {v : Value} (h : Cell1 w b T v) (hb : Below w.heap.size w w') : Cell1 w' b T v := ⟨h.blk.below hb h.blk.lt⟩
theorem boxes1 {w : World} {c1 : Array Value} {T1 : TypeId} {P : World → Prop} (h : ∀ W, Blk W w.heap.size T1 c1 → Below w.heap.size w W → P W) : P (w.alloc (.cells c1 T1)) := h _ (Blk.new w _ _) ((Below.refl _ _).alloc (Nat.le_refl _) _)
theorem boxes2 {w : World} {c1 c2 : Array Value} {T1 T2 : TypeId} {P : World → Prop} (h : ∀ W, Blk W w.heap.size T1 c1 → Blk W (w.heap.size + 1) T2 c2 → Below w.heap.size w W → P W) : P ((w.alloc (.cells c1 T1)).alloc (.cells c2 T2)) := by
  have k := Blk.new (w.alloc (.cells c1 T1)) T2 c2
  rw [World.size_alloc] at k
  exact h _ ((Blk.new w _ _).alloc _) k (((Below.refl _ _).alloc (Nat.le_refl _) _).alloc (by simp) _)
theorem boxes3 {w : World} {c1 c2 c3 : Array Value} {T1 T2 T3 : TypeId} {P : World → Prop} (h : ∀ W, Blk W w.heap.size T1 c1 → Blk W (w.heap.size + 1) T2 c2 → Blk W (w.heap.size + 1 + 1) T3 c3 → Below w.heap.size w W → P W) : P (((w.alloc (.cells c1 T1)).alloc (.cells c2 T2)).alloc (.cells c3 T3)) := by
  refine boxes2 (w := w) (c1 := c1) (T1 := T1) (c2 := c2) (T2 := T2) (P := fun V => V.heap.size = w.heap.size + 1 + 1 → P (V.alloc (.cells c3 T3))) (fun V h1 h2 h3 hz => ?_) (by simp)
  have k := Blk.new V T3 c3
  rw [hz] at k
  exact h _ (h1.alloc _) (h2.alloc _) k (h3.alloc (by omega) _)
def blkFrac (v : Value) (g : Nat) : Prop := ∃ b1 A k c b2 B l e, v = .agg #[.bool b1, .slice A k c, .bool b2, .slice B l e] ∧ ((Value.slice A k c).ownBlock = some g ∨ (Value.slice B l e).ownBlock = some g)
theorem blkFrac.at {b1 b2 : Bool} {A B : Option Addr} {k c l e g : Nat} (h : blkFrac (.agg #[.bool b1, .slice A k c, .bool b2, .slice B l e]) g) : (Value.slice A k c).ownBlock = some g ∨ (Value.slice B l e).ownBlock = some g := by
  obtain ⟨c1, A', k', c', c2, B', l', e', h1, h2⟩ := h
  simp only [Value.agg.injEq, Array.mk.injEq, List.cons.injEq, Value.slice.injEq, and_true] at h1
  obtain ⟨-, ⟨rfl, rfl, rfl⟩, -, rfl, rfl, rfl⟩ := h1
  exact h2
theorem FracOwn.in_ {w : World} {base : Nat} {v : Value} {n d : Int} (h : FracOwn w base v n d) : FracIn w 0 v n d := by
  obtain ⟨A, c, B, e, h1, h2, h3, -⟩ := h.form
  exact ⟨A, c, B, e, h1, h2.base (Nat.zero_le _), h3.base (Nat.zero_le _)⟩
structure GaussAt (w : World) (v : Value) (n d m f : Int) : Prop where
  form : ∃ A c B e A2 c2 B2 e2, v = .agg #[.bool (decide (n < 0)), .slice A (natL n.natAbs).length c, .bool (decide (d < 0)), .slice B (natL d.natAbs).length e, .bool (decide (m < 0)), .slice A2 (natL m.natAbs).length c2, .bool (decide (f < 0)), .slice B2 (natL f.natAbs).length e2] ∧
    Raw w A c (natL n.natAbs) ∧ Raw w B e (natL d.natAbs) ∧ Raw w A2 c2 (natL m.natAbs) ∧ Raw w B2 e2 (natL f.natAbs)
theorem GaussAt.below {w w' : World} {v : Value} {n d m f : Int} (h : GaussAt w v n d m f) (hb : Below w.heap.size w w') : GaussAt w' v n d m f := by
  obtain ⟨A, c, B, e, A2, c2, B2, e2, h1, h2, h3, h4, h5⟩ := h.form
  exact ⟨A, c, B, e, A2, c2, B2, e2, h1, h2.below hb, h3.below hb, h4.below hb, h5.below hb⟩
structure GaussIn (w : World) (v : Value) (n d m f : Int) : Prop where
  form : ∃ A c B e A2 c2 B2 e2, v = .agg #[.bool (decide (n < 0)), .slice A (natL n.natAbs).length c, .bool (decide (d < 0)), .slice B (natL d.natAbs).length e, .bool (decide (m < 0)), .slice A2 (natL m.natAbs).length c2, .bool (decide (f < 0)), .slice B2 (natL f.natAbs).length e2] ∧
    FracIn w 0 (.agg #[.bool (decide (n < 0)), .slice A (natL n.natAbs).length c, .bool (decide (d < 0)), .slice B (natL d.natAbs).length e]) n d ∧ FracIn w 0 (.agg #[.bool (decide (m < 0)), .slice A2 (natL m.natAbs).length c2, .bool (decide (f < 0)), .slice B2 (natL f.natAbs).length e2]) m f
theorem FracIn.raws {w : World} {base c e : Nat} {A B : Option Addr} {n d : Int} (h : FracIn w base (.agg #[.bool (decide (n < 0)), .slice A (natL n.natAbs).length c, .bool (decide (d < 0)), .slice B (natL d.natAbs).length e]) n d) : Raw w A c (natL n.natAbs) ∧ Raw w B e (natL d.natAbs) := by
  obtain ⟨A', c', B', e', h1, h2, h3⟩ := h.form
  simp only [Value.agg.injEq, Array.mk.injEq, List.cons.injEq, Value.slice.injEq, and_true, true_and] at h1
  obtain ⟨⟨rfl, rfl⟩, rfl, rfl⟩ := h1
  exact ⟨h2.rawAt, h3.rawAt⟩
theorem GaussIn.at_ {w : World} {v : Value} {n d m f : Int} (h : GaussIn w v n d m f) : GaussAt w v n d m f := by
  obtain ⟨A, c, B, e, A2, c2, B2, e2, h1, h2, h3⟩ := h.form
  exact ⟨A, c, B, e, A2, c2, B2, e2, h1, h2.raws.1, h2.raws.2, h3.raws.1, h3.raws.2⟩
theorem GaussIn.kept {B : Nat} {Ts : List TypeId} {w w' : World} {v : Value} {n d m f : Int} (h : GaussIn w v n d m f) (k : KeptV B Ts w w') (hT : 109 ∉ Ts) : GaussIn w' v n d m f := by
  obtain ⟨A, c, B, e, A2, c2, B2, e2, h1, h2, h3⟩ := h.form
  exact ⟨A, c, B, e, A2, c2, B2, e2, h1, h2.kept k hT, h3.kept k hT⟩
theorem GaussIn.below {w w' : World} {v : Value} {n d m f : Int} (h : GaussIn w v n d m f) (hb : Below w.heap.size w w') : GaussIn w' v n d m f := by
  obtain ⟨A, c, B, e, A2, c2, B2, e2, h1, h2, h3⟩ := h.form
  exact ⟨A, c, B, e, A2, c2, B2, e2, h1, h2.below hb, h3.below hb⟩
theorem GaussIn.cells {w : World} {v : Value} {n d m f : Int} (h : GaussIn w v n d m f) : CellsN v 8 := by
  obtain ⟨A, c, B, e, A2, c2, B2, e2, rfl, -⟩ := h.form
  exact ⟨rfl, by simp [Value.cells, Value.oneCell']⟩
structure GaussOwn (w : World) (base : Nat) (v : Value) (n d m f : Int) : Prop where
  form : ∃ A c B e A2 c2 B2 e2, v = .agg #[.bool (decide (n < 0)), .slice A (natL n.natAbs).length c, .bool (decide (d < 0)), .slice B (natL d.natAbs).length e, .bool (decide (m < 0)), .slice A2 (natL m.natAbs).length c2, .bool (decide (f < 0)), .slice B2 (natL f.natAbs).length e2] ∧
    FracOwn w base (.agg #[.bool (decide (n < 0)), .slice A (natL n.natAbs).length c, .bool (decide (d < 0)), .slice B (natL d.natAbs).length e]) n d ∧ FracOwn w base (.agg #[.bool (decide (m < 0)), .slice A2 (natL m.natAbs).length c2, .bool (decide (f < 0)), .slice B2 (natL f.natAbs).length e2]) m f ∧
    ∀ g, blkFrac (.agg #[.bool (decide (n < 0)), .slice A (natL n.natAbs).length c, .bool (decide (d < 0)), .slice B (natL d.natAbs).length e]) g → ¬ blkFrac (.agg #[.bool (decide (m < 0)), .slice A2 (natL m.natAbs).length c2, .bool (decide (f < 0)), .slice B2 (natL f.natAbs).length e2]) g
theorem GaussOwn.in_ {w : World} {base : Nat} {v : Value} {n d m f : Int} (h : GaussOwn w base v n d m f) : GaussIn w v n d m f := by
  obtain ⟨A, c, B, e, A2, c2, B2, e2, h1, h2, h3, -⟩ := h.form
  exact ⟨A, c, B, e, A2, c2, B2, e2, h1, h2.in_, h3.in_⟩
theorem GaussOwn.nought (w : World) (base : Nat) : GaussOwn w base (.agg #[.bool false, .slice none 0 0, .bool false, .slice none 0 0, .bool false, .slice none 0 0, .bool false, .slice none 0 0]) 0 0 0 0 :=
  ⟨none, 0, none, 0, none, 0, none, 0, rfl, FracOwn.nought _ _, FracOwn.nought _ _, fun g hg => by rcases hg.at with h | h <;> cases h⟩
def RetGaussOwn (base : Nat) (w : World) (n d m f : Int) (e : Ending) (w' : World) : Prop := ∃ v, e = .returned v ∧ GaussOwn w' base v n d m f ∧ Below w.heap.size w w'
def RetGaussOwn2 (base : Nat) (w : World) (n d m f k : Int) (e : Ending) (w' : World) : Prop := ∃ v, e = .returned (.tuple #[v, .int .i64 k]) ∧ GaussOwn w' base v n d m f ∧ Below w.heap.size w w'
def RetGaussIn (w : World) (n d m f : Int) (e : Ending) (w' : World) : Prop := ∃ v, e = .returned v ∧ GaussIn w' v n d m f ∧ Below w.heap.size w w'
def RetGaussIn2 (w : World) (n d m f k : Int) (e : Ending) (w' : World) : Prop := ∃ v, e = .returned (.tuple #[v, .int .i64 k]) ∧ GaussIn w' v n d m f ∧ Below w.heap.size w w'
structure FracRaw (w : World) (v : Value) (n1 n2 : Bool) (xs ys : List Nat) : Prop where
  form : ∃ A c B e, v = .agg #[.bool n1, .slice A xs.length c, .bool n2, .slice B ys.length e] ∧ Raw w A c xs ∧ Raw w B e ys
structure GaussRaw (w : World) (v : Value) (n1 n2 n3 n4 : Bool) (xs ys us vs : List Nat) : Prop where
  form : ∃ A c B e A2 c2 B2 e2, v = .agg #[.bool n1, .slice A xs.length c, .bool n2, .slice B ys.length e, .bool n3, .slice A2 us.length c2, .bool n4, .slice B2 vs.length e2] ∧ Raw w A c xs ∧ Raw w B e ys ∧ Raw w A2 c2 us ∧ Raw w B2 e2 vs
section
variable {w w' : World} {c e k l : Nat} {n d m f : Int} {A B C D : Option Addr}
theorem GaussAt.raws (h : GaussAt w (.agg #[.bool (decide (n < 0)), .slice A (natL n.natAbs).length c, .bool (decide (d < 0)), .slice B (natL d.natAbs).length e, .bool (decide (m < 0)), .slice C (natL m.natAbs).length k, .bool (decide (f < 0)), .slice D (natL f.natAbs).length l]) n d m f) : Raw w A c (natL n.natAbs) ∧ Raw w B e (natL d.natAbs) ∧ Raw w C k (natL m.natAbs) ∧ Raw w D l (natL f.natAbs) := by
  obtain ⟨A1, k1, A2, k2, A3, k3, A4, k4, h1, h2, h3, h4, h5⟩ := h.form
  simp only [Value.agg.injEq, Array.mk.injEq, List.cons.injEq, Value.slice.injEq, and_true, true_and] at h1
  obtain ⟨⟨rfl, rfl⟩, ⟨rfl, rfl⟩, ⟨rfl, rfl⟩, rfl, rfl⟩ := h1
  exact ⟨h2, h3, h4, h5⟩
theorem GaussAt.re (h : GaussAt w (.agg #[.bool (decide (n < 0)), .slice A (natL n.natAbs).length c, .bool (decide (d < 0)), .slice B (natL d.natAbs).length e, .bool (decide (m < 0)), .slice C (natL m.natAbs).length k, .bool (decide (f < 0)), .slice D (natL f.natAbs).length l]) n d m f) : FracAt w (.agg #[.bool (decide (n < 0)), .slice A (natL n.natAbs).length c, .bool (decide (d < 0)), .slice B (natL d.natAbs).length e]) n d := ⟨_, _, _, _, rfl, h.raws.1, h.raws.2.1⟩
theorem GaussAt.im (h : GaussAt w (.agg #[.bool (decide (n < 0)), .slice A (natL n.natAbs).length c, .bool (decide (d < 0)), .slice B (natL d.natAbs).length e, .bool (decide (m < 0)), .slice C (natL m.natAbs).length k, .bool (decide (f < 0)), .slice D (natL f.natAbs).length l]) n d m f) : FracAt w (.agg #[.bool (decide (m < 0)), .slice C (natL m.natAbs).length k, .bool (decide (f < 0)), .slice D (natL f.natAbs).length l]) m f := ⟨_, _, _, _, rfl, h.raws.2.2.1, h.raws.2.2.2⟩
end
section
variable {w w' : World} {v : Value} {n1 n2 n3 n4 : Bool} {xs ys us vs : List Nat} {c e k l : Nat} {A B C D : Option Addr}
theorem GaussRaw.below (h : GaussRaw w v n1 n2 n3 n4 xs ys us vs) (hb : Below w.heap.size w w') : GaussRaw w' v n1 n2 n3 n4 xs ys us vs := by
  obtain ⟨A1, k1, A2, k2, A3, k3, A4, k4, h1, h2, h3, h4, h5⟩ := h.form
  exact ⟨A1, k1, A2, k2, A3, k3, A4, k4, h1, h2.below hb, h3.below hb, h4.below hb, h5.below hb⟩
theorem GaussRaw.raws (h : GaussRaw w (.agg #[.bool n1, .slice A xs.length c, .bool n2, .slice B ys.length e, .bool n3, .slice C us.length k, .bool n4, .slice D vs.length l]) n1 n2 n3 n4 xs ys us vs) : Raw w A c xs ∧ Raw w B e ys ∧ Raw w C k us ∧ Raw w D l vs := by
  obtain ⟨A1, k1, A2, k2, A3, k3, A4, k4, h1, h2, h3, h4, h5⟩ := h.form
  simp only [Value.agg.injEq, Array.mk.injEq, List.cons.injEq, Value.slice.injEq, and_true, true_and] at h1
  obtain ⟨⟨rfl, rfl⟩, ⟨rfl, rfl⟩, ⟨rfl, rfl⟩, rfl, rfl⟩ := h1
  exact ⟨h2, h3, h4, h5⟩
end
structure GV (w : World) (g : Nat) (T : TypeId) (n d m f : Int) (A : Option Addr) (c : Nat) (B : Option Addr) (e : Nat) (C : Option Addr) (k : Nat) (D : Option Addr) (l : Nat) : Prop where
  oct : Oct w g T (.bool (decide (n < 0))) (.slice A (natL n.natAbs).length c) (.bool (decide (d < 0))) (.slice B (natL d.natAbs).length e) (.bool (decide (m < 0))) (.slice C (natL m.natAbs).length k) (.bool (decide (f < 0))) (.slice D (natL f.natAbs).length l)
  at_ : GaussAt w (.agg #[.bool (decide (n < 0)), .slice A (natL n.natAbs).length c, .bool (decide (d < 0)), .slice B (natL d.natAbs).length e, .bool (decide (m < 0)), .slice C (natL m.natAbs).length k, .bool (decide (f < 0)), .slice D (natL f.natAbs).length l]) n d m f
section
variable {w w' : World} {g c e k l : Nat} {T : TypeId} {n d m f : Int} {A B C D : Option Addr}
end
structure TupG (V : World) (base : Nat) (u : Value) (n d m f k : Int) : Prop where
  form : ∃ v, u = .tuple #[v, .int .i64 k] ∧ GaussOwn V base v n d m f
structure TupGI (V : World) (u : Value) (n d m f k : Int) : Prop where
  form : ∃ v, u = .tuple #[v, .int .i64 k] ∧ GaussIn V v n d m f
theorem TupGI.kept {B : Nat} {Ts : List TypeId} {w w' : World} {u : Value} {n d m f k : Int} (h : TupGI w u n d m f k) (hk : KeptV B Ts w w') (hT : 109 ∉ Ts) : TupGI w' u n d m f k := by
  obtain ⟨v, h1, h2⟩ := h.form
  exact ⟨v, h1, h2.kept hk hT⟩
structure TupR (V : World) (base : Nat) (u : Value) (n d k : Int) : Prop where
  form : ∃ v, u = .tuple #[v, .int .i64 k] ∧ FracOwn V base v n d
structure TupRI (V : World) (u : Value) (n d k : Int) : Prop where
  form : ∃ v, u = .tuple #[v, .int .i64 k] ∧ FracIn V 0 v n d
abbrev OpR (F : FuncId) (n d m f N D : Int) : Prop := ∀ (V : World) (v1 v2 : Value), FracAt V v1 n d → FracAt V v2 m f → Calls Tryz.prog F #[v1, v2] V (RetFracOwn V.heap.size V N D)
abbrev OpI (F : FuncId) (n d m f N D : Int) : Prop := ∀ (V : World) (v1 v2 : Value), FracAt V v1 n d → FracAt V v2 m f → Calls Tryz.prog F #[v1, v2] V (RetFracIn V N D)
abbrev OpR1 (F : FuncId) (n d N D : Int) : Prop := ∀ (V : World) (v1 : Value), FracAt V v1 n d → Calls Tryz.prog F #[v1] V (RetFracOwn V.heap.size V N D)
abbrev OpI1 (F : FuncId) (n d N D : Int) : Prop := ∀ (V : World) (v1 : Value), FracAt V v1 n d → Calls Tryz.prog F #[v1] V (RetFracIn V N D)
abbrev OpR0 (F : FuncId) (N D : Int) : Prop := ∀ (V : World), Calls Tryz.prog F #[] V (RetFracOwn V.heap.size V N D)
abbrev OpI0 (F : FuncId) (N D : Int) : Prop := ∀ (V : World), Calls Tryz.prog F #[] V (RetFracIn V N D)
abbrev SgnF (F : FuncId) (n d s : Int) : Prop := ∀ (V : World) (v1 : Value), FracAt V v1 n d → Calls Tryz.prog F #[v1] V fun e w' => e = .returned (.int .i64 s) ∧ Below V.heap.size V w'
abbrev OpGF (F : FuncId) (n d m f p q N D M E : Int) : Prop := ∀ (V : World) (v1 v2 : Value), GaussAt V v1 n d m f → FracAt V v2 p q → Calls Tryz.prog F #[v1, v2] V (RetGaussOwn V.heap.size V N D M E)
abbrev OpG1 (F : FuncId) (n d m f N D M E : Int) : Prop := ∀ (V : World) (v1 : Value), GaussAt V v1 n d m f → Calls Tryz.prog F #[v1] V (RetGaussOwn V.heap.size V N D M E)
abbrev OpGI1 (F : FuncId) (n d m f N D M E : Int) : Prop := ∀ (V : World) (v1 : Value), GaussAt V v1 n d m f → Calls Tryz.prog F #[v1] V (RetGaussIn V N D M E)
abbrev OpN (F : FuncId) (n d m f N D : Int) : Prop := ∀ (V : World) (v1 : Value), GaussAt V v1 n d m f → Calls Tryz.prog F #[v1] V (RetFracOwn V.heap.size V N D)
abbrev OpNI (F : FuncId) (n d m f N D : Int) : Prop := ∀ (V : World) (v1 : Value), GaussAt V v1 n d m f → Calls Tryz.prog F #[v1] V (RetFracIn V N D)
abbrev OpG (F : FuncId) (n d m f p q r s N D M E : Int) : Prop := ∀ (V : World) (v1 v2 : Value), GaussAt V v1 n d m f → GaussAt V v2 p q r s → Calls Tryz.prog F #[v1, v2] V (RetGaussOwn V.heap.size V N D M E)
abbrev OpGI (F : FuncId) (n d m f p q r s N D M E : Int) : Prop := ∀ (V : World) (v1 v2 : Value), GaussAt V v1 n d m f → GaussAt V v2 p q r s → Calls Tryz.prog F #[v1, v2] V (RetGaussIn V N D M E)
/- A variable of sixteen cells; matrices of four fractions. (Written by wip/top/genhex.py.) -/

structure Hex (w : World) (g : Nat) (T : TypeId) (x0 x1 x2 x3 x4 x5 x6 x7 x8 x9 x10 x11 x12 x13 x14 x15 : Value) : Prop where
  blk : Blk w g T #[x0, x1, x2, x3, x4, x5, x6, x7, x8, x9, x10, x11, x12, x13, x14, x15]
section
variable {w w' : World} {g : Nat} {T : TypeId} {x0 x1 x2 x3 x4 x5 x6 x7 x8 x9 x10 x11 x12 x13 x14 x15 : Value}
theorem Hex.below (k : Hex w g T x0 x1 x2 x3 x4 x5 x6 x7 x8 x9 x10 x11 x12 x13 x14 x15) (hb : Below w.heap.size w w') : Hex w' g T x0 x1 x2 x3 x4 x5 x6 x7 x8 x9 x10 x11 x12 x13 x14 x15 := ⟨k.blk.below hb k.blk.lt⟩
theorem Hex.facts (k : Hex w g T x0 x1 x2 x3 x4 x5 x6 x7 x8 x9 x10 x11 x12 x13 x14 x15) : g < w.heap.size ∧ w.cell? ⟨g, 0, none⟩ = some x0 ∧ w.cell? ⟨g, 1, none⟩ = some x1 ∧ w.cell? ⟨g, 2, none⟩ = some x2 ∧ w.cell? ⟨g, 3, none⟩ = some x3 ∧ w.cell? ⟨g, 4, none⟩ = some x4 ∧ w.cell? ⟨g, 5, none⟩ = some x5 ∧ w.cell? ⟨g, 6, none⟩ = some x6 ∧ w.cell? ⟨g, 7, none⟩ = some x7 ∧ w.cell? ⟨g, 8, none⟩ = some x8 ∧ w.cell? ⟨g, 9, none⟩ = some x9 ∧ w.cell? ⟨g, 10, none⟩ = some x10 ∧ w.cell? ⟨g, 11, none⟩ = some x11 ∧ w.cell? ⟨g, 12, none⟩ = some x12 ∧ w.cell? ⟨g, 13, none⟩ = some x13 ∧ w.cell? ⟨g, 14, none⟩ = some x14 ∧ w.cell? ⟨g, 15, none⟩ = some x15 :=
  ⟨k.blk.lt, k.blk.cell 0, k.blk.cell 1, k.blk.cell 2, k.blk.cell 3, k.blk.cell 4, k.blk.cell 5, k.blk.cell 6, k.blk.cell 7, k.blk.cell 8, k.blk.cell 9, k.blk.cell 10, k.blk.cell 11, k.blk.cell 12, k.blk.cell 13, k.blk.cell 14, k.blk.cell 15⟩
theorem Hex.free (k : Hex w g T x0 x1 x2 x3 x4 x5 x6 x7 x8 x9 x10 x11 x12 x13 x14 x15) : w.frozen? ⟨g, 0, none⟩ = false ∧ w.frozen? ⟨g, 1, none⟩ = false ∧ w.frozen? ⟨g, 2, none⟩ = false ∧ w.frozen? ⟨g, 3, none⟩ = false ∧ w.frozen? ⟨g, 4, none⟩ = false ∧ w.frozen? ⟨g, 5, none⟩ = false ∧ w.frozen? ⟨g, 6, none⟩ = false ∧ w.frozen? ⟨g, 7, none⟩ = false ∧ w.frozen? ⟨g, 8, none⟩ = false ∧ w.frozen? ⟨g, 9, none⟩ = false ∧ w.frozen? ⟨g, 10, none⟩ = false ∧ w.frozen? ⟨g, 11, none⟩ = false ∧ w.frozen? ⟨g, 12, none⟩ = false ∧ w.frozen? ⟨g, 13, none⟩ = false ∧ w.frozen? ⟨g, 14, none⟩ = false ∧ w.frozen? ⟨g, 15, none⟩ = false :=
  ⟨k.blk.frozen 0, k.blk.frozen 1, k.blk.frozen 2, k.blk.frozen 3, k.blk.frozen 4, k.blk.frozen 5, k.blk.frozen 6, k.blk.frozen 7, k.blk.frozen 8, k.blk.frozen 9, k.blk.frozen 10, k.blk.frozen 11, k.blk.frozen 12, k.blk.frozen 13, k.blk.frozen 14, k.blk.frozen 15⟩
end
theorem set16_far (w : World) (g : Nat) (y0 y1 y2 y3 y4 y5 y6 y7 y8 y9 y10 y11 y12 y13 y14 y15 : Value) : ∀ k, k ≠ g → ((((((((((((((((w.setCell ⟨g, 0, none⟩ y0).setCell ⟨g, 1, none⟩ y1).setCell ⟨g, 2, none⟩ y2).setCell ⟨g, 3, none⟩ y3).setCell ⟨g, 4, none⟩ y4).setCell ⟨g, 5, none⟩ y5).setCell ⟨g, 6, none⟩ y6).setCell ⟨g, 7, none⟩ y7).setCell ⟨g, 8, none⟩ y8).setCell ⟨g, 9, none⟩ y9).setCell ⟨g, 10, none⟩ y10).setCell ⟨g, 11, none⟩ y11).setCell ⟨g, 12, none⟩ y12).setCell ⟨g, 13, none⟩ y13).setCell ⟨g, 14, none⟩ y14).setCell ⟨g, 15, none⟩ y15).heap[k]? = w.heap[k]? := by
  intro k hk
  rw [Below.heap_setCell _ ⟨g, 15, none⟩ y15 k hk, Below.heap_setCell _ ⟨g, 14, none⟩ y14 k hk, Below.heap_setCell _ ⟨g, 13, none⟩ y13 k hk, Below.heap_setCell _ ⟨g, 12, none⟩ y12 k hk, Below.heap_setCell _ ⟨g, 11, none⟩ y11 k hk, Below.heap_setCell _ ⟨g, 10, none⟩ y10 k hk, Below.heap_setCell _ ⟨g, 9, none⟩ y9 k hk, Below.heap_setCell _ ⟨g, 8, none⟩ y8 k hk, Below.heap_setCell _ ⟨g, 7, none⟩ y7 k hk, Below.heap_setCell _ ⟨g, 6, none⟩ y6 k hk, Below.heap_setCell _ ⟨g, 5, none⟩ y5 k hk, Below.heap_setCell _ ⟨g, 4, none⟩ y4 k hk, Below.heap_setCell _ ⟨g, 3, none⟩ y3 k hk, Below.heap_setCell _ ⟨g, 2, none⟩ y2 k hk, Below.heap_setCell _ ⟨g, 1, none⟩ y1 k hk, Below.heap_setCell _ ⟨g, 0, none⟩ y0 k hk]
theorem below16 {W w : World} {B g : Nat} (h : Below B W w) (hg : B ≤ g) (y0 y1 y2 y3 y4 y5 y6 y7 y8 y9 y10 y11 y12 y13 y14 y15 : Value) : Below B W ((((((((((((((((w.setCell ⟨g, 0, none⟩ y0).setCell ⟨g, 1, none⟩ y1).setCell ⟨g, 2, none⟩ y2).setCell ⟨g, 3, none⟩ y3).setCell ⟨g, 4, none⟩ y4).setCell ⟨g, 5, none⟩ y5).setCell ⟨g, 6, none⟩ y6).setCell ⟨g, 7, none⟩ y7).setCell ⟨g, 8, none⟩ y8).setCell ⟨g, 9, none⟩ y9).setCell ⟨g, 10, none⟩ y10).setCell ⟨g, 11, none⟩ y11).setCell ⟨g, 12, none⟩ y12).setCell ⟨g, 13, none⟩ y13).setCell ⟨g, 14, none⟩ y14).setCell ⟨g, 15, none⟩ y15) :=
  ((((((((((((((((h.setCell (p := ⟨g, 0, none⟩) hg y0).setCell (p := ⟨g, 1, none⟩) hg y1).setCell (p := ⟨g, 2, none⟩) hg y2).setCell (p := ⟨g, 3, none⟩) hg y3).setCell (p := ⟨g, 4, none⟩) hg y4).setCell (p := ⟨g, 5, none⟩) hg y5).setCell (p := ⟨g, 6, none⟩) hg y6).setCell (p := ⟨g, 7, none⟩) hg y7).setCell (p := ⟨g, 8, none⟩) hg y8).setCell (p := ⟨g, 9, none⟩) hg y9).setCell (p := ⟨g, 10, none⟩) hg y10).setCell (p := ⟨g, 11, none⟩) hg y11).setCell (p := ⟨g, 12, none⟩) hg y12).setCell (p := ⟨g, 13, none⟩) hg y13).setCell (p := ⟨g, 14, none⟩) hg y14).setCell (p := ⟨g, 15, none⟩) hg y15)
theorem Hex.store {w : World} {g : Nat} {T : TypeId} {x0 x1 x2 x3 x4 x5 x6 x7 x8 x9 x10 x11 x12 x13 x14 x15 : Value} (k : Hex w g T x0 x1 x2 x3 x4 x5 x6 x7 x8 x9 x10 x11 x12 x13 x14 x15) (y0 y1 y2 y3 y4 y5 y6 y7 y8 y9 y10 y11 y12 y13 y14 y15 : Value) : Hex ((((((((((((((((w.setCell ⟨g, 0, none⟩ y0).setCell ⟨g, 1, none⟩ y1).setCell ⟨g, 2, none⟩ y2).setCell ⟨g, 3, none⟩ y3).setCell ⟨g, 4, none⟩ y4).setCell ⟨g, 5, none⟩ y5).setCell ⟨g, 6, none⟩ y6).setCell ⟨g, 7, none⟩ y7).setCell ⟨g, 8, none⟩ y8).setCell ⟨g, 9, none⟩ y9).setCell ⟨g, 10, none⟩ y10).setCell ⟨g, 11, none⟩ y11).setCell ⟨g, 12, none⟩ y12).setCell ⟨g, 13, none⟩ y13).setCell ⟨g, 14, none⟩ y14).setCell ⟨g, 15, none⟩ y15) g T y0 y1 y2 y3 y4 y5 y6 y7 y8 y9 y10 y11 y12 y13 y14 y15 := by
  have key := ((((((((((((((((k.blk.set_ 0 y0).set_ 1 y1).set_ 2 y2).set_ 3 y3).set_ 4 y4).set_ 5 y5).set_ 6 y6).set_ 7 y7).set_ 8 y8).set_ 9 y9).set_ 10 y10).set_ 11 y11).set_ 12 y12).set_ 13 y13).set_ 14 y14).set_ 15 y15)
  have e9 : ((((((((((((((((#[x0, x1, x2, x3, x4, x5, x6, x7, x8, x9, x10, x11, x12, x13, x14, x15].setIfInBounds 0 y0).setIfInBounds 1 y1).setIfInBounds 2 y2).setIfInBounds 3 y3).setIfInBounds 4 y4).setIfInBounds 5 y5).setIfInBounds 6 y6).setIfInBounds 7 y7).setIfInBounds 8 y8).setIfInBounds 9 y9).setIfInBounds 10 y10).setIfInBounds 11 y11).setIfInBounds 12 y12).setIfInBounds 13 y13).setIfInBounds 14 y14).setIfInBounds 15 y15) = #[y0, y1, y2, y3, y4, y5, y6, y7, y8, y9, y10, y11, y12, y13, y14, y15] := by simp
  rw [e9] at key
  exact ⟨key⟩
structure MatAt (w : World) (v : Value) (n d m f p q r s : Int) : Prop where
  form : ∃ A0 c0 A1 c1 A2 c2 A3 c3 A4 c4 A5 c5 A6 c6 A7 c7, v = .agg #[.bool (decide (n < 0)), .slice A0 (natL n.natAbs).length c0, .bool (decide (d < 0)), .slice A1 (natL d.natAbs).length c1, .bool (decide (m < 0)), .slice A2 (natL m.natAbs).length c2, .bool (decide (f < 0)), .slice A3 (natL f.natAbs).length c3, .bool (decide (p < 0)), .slice A4 (natL p.natAbs).length c4, .bool (decide (q < 0)), .slice A5 (natL q.natAbs).length c5, .bool (decide (r < 0)), .slice A6 (natL r.natAbs).length c6, .bool (decide (s < 0)), .slice A7 (natL s.natAbs).length c7] ∧ Raw w A0 c0 (natL n.natAbs) ∧ Raw w A1 c1 (natL d.natAbs) ∧ Raw w A2 c2 (natL m.natAbs) ∧ Raw w A3 c3 (natL f.natAbs) ∧ Raw w A4 c4 (natL p.natAbs) ∧ Raw w A5 c5 (natL q.natAbs) ∧ Raw w A6 c6 (natL r.natAbs) ∧ Raw w A7 c7 (natL s.natAbs)
section
variable {w w' : World} {base : Nat} {v : Value} {n d m f p q r s : Int}
theorem MatAt.below (h : MatAt w v n d m f p q r s) (hb : Below w.heap.size w w') : MatAt w' v n d m f p q r s := by
  obtain ⟨A0, c0, A1, c1, A2, c2, A3, c3, A4, c4, A5, c5, A6, c6, A7, c7, h0, h1, h2, h3, h4, h5, h6, h7, h8⟩ := h.form
  exact ⟨A0, c0, A1, c1, A2, c2, A3, c3, A4, c4, A5, c5, A6, c6, A7, c7, h0, h1.below hb, h2.below hb, h3.below hb, h4.below hb, h5.below hb, h6.below hb, h7.below hb, h8.below hb⟩
structure MatIn (w : World) (v : Value) (n d m f p q r s : Int) : Prop where
  form : ∃ A0 c0 A1 c1 A2 c2 A3 c3 A4 c4 A5 c5 A6 c6 A7 c7, v = .agg #[.bool (decide (n < 0)), .slice A0 (natL n.natAbs).length c0, .bool (decide (d < 0)), .slice A1 (natL d.natAbs).length c1, .bool (decide (m < 0)), .slice A2 (natL m.natAbs).length c2, .bool (decide (f < 0)), .slice A3 (natL f.natAbs).length c3, .bool (decide (p < 0)), .slice A4 (natL p.natAbs).length c4, .bool (decide (q < 0)), .slice A5 (natL q.natAbs).length c5, .bool (decide (r < 0)), .slice A6 (natL r.natAbs).length c6, .bool (decide (s < 0)), .slice A7 (natL s.natAbs).length c7] ∧ FracIn w 0 (.agg #[.bool (decide (n < 0)), .slice A0 (natL n.natAbs).length c0, .bool (decide (d < 0)), .slice A1 (natL d.natAbs).length c1]) n d ∧ FracIn w 0 (.agg #[.bool (decide (m < 0)), .slice A2 (natL m.natAbs).length c2, .bool (decide (f < 0)), .slice A3 (natL f.natAbs).length c3]) m f ∧ FracIn w 0 (.agg #[.bool (decide (p < 0)), .slice A4 (natL p.natAbs).length c4, .bool (decide (q < 0)), .slice A5 (natL q.natAbs).length c5]) p q ∧ FracIn w 0 (.agg #[.bool (decide (r < 0)), .slice A6 (natL r.natAbs).length c6, .bool (decide (s < 0)), .slice A7 (natL s.natAbs).length c7]) r s
theorem MatIn.at_ (h : MatIn w v n d m f p q r s) : MatAt w v n d m f p q r s := by
  obtain ⟨A0, c0, A1, c1, A2, c2, A3, c3, A4, c4, A5, c5, A6, c6, A7, c7, h0, h1, h2, h3, h4⟩ := h.form
  exact ⟨A0, c0, A1, c1, A2, c2, A3, c3, A4, c4, A5, c5, A6, c6, A7, c7, h0, h1.raws.1, h1.raws.2, h2.raws.1, h2.raws.2, h3.raws.1, h3.raws.2, h4.raws.1, h4.raws.2⟩
theorem MatIn.kept {B : Nat} {Ts : List TypeId} (h : MatIn w v n d m f p q r s) (k : KeptV B Ts w w') (hT : 109 ∉ Ts) : MatIn w' v n d m f p q r s := by
  obtain ⟨A0, c0, A1, c1, A2, c2, A3, c3, A4, c4, A5, c5, A6, c6, A7, c7, h0, h1, h2, h3, h4⟩ := h.form
  exact ⟨A0, c0, A1, c1, A2, c2, A3, c3, A4, c4, A5, c5, A6, c6, A7, c7, h0, h1.kept k hT, h2.kept k hT, h3.kept k hT, h4.kept k hT⟩
theorem MatIn.below (h : MatIn w v n d m f p q r s) (hb : Below w.heap.size w w') : MatIn w' v n d m f p q r s := h.kept (Ts := []) (KeptV.of_below (B := 0) hb) (by simp)
theorem MatIn.other {g : Nat} {T : TypeId} {cs : Array Value} (h : MatIn w v n d m f p q r s) (hb : Blk w g T cs) (hT : 109 ≠ T) (hw : ∀ k, k ≠ g → w'.heap[k]? = w.heap[k]?) : MatIn w' v n d m f p q r s := by
  obtain ⟨A0, c0, A1, c1, A2, c2, A3, c3, A4, c4, A5, c5, A6, c6, A7, c7, h0, h1, h2, h3, h4⟩ := h.form
  exact ⟨A0, c0, A1, c1, A2, c2, A3, c3, A4, c4, A5, c5, A6, c6, A7, c7, h0, h1.other hb hT hw, h2.other hb hT hw, h3.other hb hT hw, h4.other hb hT hw⟩
theorem MatIn.cells (h : MatIn w v n d m f p q r s) : CellsN v 16 := by
  obtain ⟨A0, c0, A1, c1, A2, c2, A3, c3, A4, c4, A5, c5, A6, c6, A7, c7, rfl, -⟩ := h.form
  exact ⟨rfl, by simp [Value.cells, Value.oneCell']⟩
def RetMatIn (w : World) (n d m f p q r s : Int) (e : Ending) (w' : World) : Prop := ∃ v, e = .returned v ∧ MatIn w' v n d m f p q r s ∧ Below w.heap.size w w'
def RetMatIn2 (w : World) (n d m f p q r s k : Int) (e : Ending) (w' : World) : Prop := ∃ v, e = .returned (.tuple #[v, .int .i64 k]) ∧ MatIn w' v n d m f p q r s ∧ Below w.heap.size w w'
end
section
variable {w : World} {n d m f p q r s : Int} {A0 A1 A2 A3 A4 A5 A6 A7 : Option Addr} {c0 c1 c2 c3 c4 c5 c6 c7 : Nat}
theorem MatAt.fa (h : MatAt w (.agg #[.bool (decide (n < 0)), .slice A0 (natL n.natAbs).length c0, .bool (decide (d < 0)), .slice A1 (natL d.natAbs).length c1, .bool (decide (m < 0)), .slice A2 (natL m.natAbs).length c2, .bool (decide (f < 0)), .slice A3 (natL f.natAbs).length c3, .bool (decide (p < 0)), .slice A4 (natL p.natAbs).length c4, .bool (decide (q < 0)), .slice A5 (natL q.natAbs).length c5, .bool (decide (r < 0)), .slice A6 (natL r.natAbs).length c6, .bool (decide (s < 0)), .slice A7 (natL s.natAbs).length c7]) n d m f p q r s) : FracAt w (.agg #[.bool (decide (n < 0)), .slice A0 (natL n.natAbs).length c0, .bool (decide (d < 0)), .slice A1 (natL d.natAbs).length c1]) n d := by
  obtain ⟨A'0, c'0, A'1, c'1, A'2, c'2, A'3, c'3, A'4, c'4, A'5, c'5, A'6, c'6, A'7, c'7, h0, h1, h2, h3, h4, h5, h6, h7, h8⟩ := h.form
  simp at h0
  obtain ⟨⟨rfl, rfl⟩, ⟨rfl, rfl⟩, ⟨rfl, rfl⟩, ⟨rfl, rfl⟩, ⟨rfl, rfl⟩, ⟨rfl, rfl⟩, ⟨rfl, rfl⟩, rfl, rfl⟩ := h0
  exact ⟨_, _, _, _, rfl, h1, h2⟩
theorem MatAt.fb (h : MatAt w (.agg #[.bool (decide (n < 0)), .slice A0 (natL n.natAbs).length c0, .bool (decide (d < 0)), .slice A1 (natL d.natAbs).length c1, .bool (decide (m < 0)), .slice A2 (natL m.natAbs).length c2, .bool (decide (f < 0)), .slice A3 (natL f.natAbs).length c3, .bool (decide (p < 0)), .slice A4 (natL p.natAbs).length c4, .bool (decide (q < 0)), .slice A5 (natL q.natAbs).length c5, .bool (decide (r < 0)), .slice A6 (natL r.natAbs).length c6, .bool (decide (s < 0)), .slice A7 (natL s.natAbs).length c7]) n d m f p q r s) : FracAt w (.agg #[.bool (decide (m < 0)), .slice A2 (natL m.natAbs).length c2, .bool (decide (f < 0)), .slice A3 (natL f.natAbs).length c3]) m f := by
  obtain ⟨A'0, c'0, A'1, c'1, A'2, c'2, A'3, c'3, A'4, c'4, A'5, c'5, A'6, c'6, A'7, c'7, h0, h1, h2, h3, h4, h5, h6, h7, h8⟩ := h.form
  simp at h0
  obtain ⟨⟨rfl, rfl⟩, ⟨rfl, rfl⟩, ⟨rfl, rfl⟩, ⟨rfl, rfl⟩, ⟨rfl, rfl⟩, ⟨rfl, rfl⟩, ⟨rfl, rfl⟩, rfl, rfl⟩ := h0
  exact ⟨_, _, _, _, rfl, h3, h4⟩
theorem MatAt.fc (h : MatAt w (.agg #[.bool (decide (n < 0)), .slice A0 (natL n.natAbs).length c0, .bool (decide (d < 0)), .slice A1 (natL d.natAbs).length c1, .bool (decide (m < 0)), .slice A2 (natL m.natAbs).length c2, .bool (decide (f < 0)), .slice A3 (natL f.natAbs).length c3, .bool (decide (p < 0)), .slice A4 (natL p.natAbs).length c4, .bool (decide (q < 0)), .slice A5 (natL q.natAbs).length c5, .bool (decide (r < 0)), .slice A6 (natL r.natAbs).length c6, .bool (decide (s < 0)), .slice A7 (natL s.natAbs).length c7]) n d m f p q r s) : FracAt w (.agg #[.bool (decide (p < 0)), .slice A4 (natL p.natAbs).length c4, .bool (decide (q < 0)), .slice A5 (natL q.natAbs).length c5]) p q := by
  obtain ⟨A'0, c'0, A'1, c'1, A'2, c'2, A'3, c'3, A'4, c'4, A'5, c'5, A'6, c'6, A'7, c'7, h0, h1, h2, h3, h4, h5, h6, h7, h8⟩ := h.form
  simp at h0
  obtain ⟨⟨rfl, rfl⟩, ⟨rfl, rfl⟩, ⟨rfl, rfl⟩, ⟨rfl, rfl⟩, ⟨rfl, rfl⟩, ⟨rfl, rfl⟩, ⟨rfl, rfl⟩, rfl, rfl⟩ := h0
  exact ⟨_, _, _, _, rfl, h5, h6⟩
theorem MatAt.fd (h : MatAt w (.agg #[.bool (decide (n < 0)), .slice A0 (natL n.natAbs).length c0, .bool (decide (d < 0)), .slice A1 (natL d.natAbs).length c1, .bool (decide (m < 0)), .slice A2 (natL m.natAbs).length c2, .bool (decide (f < 0)), .slice A3 (natL f.natAbs).length c3, .bool (decide (p < 0)), .slice A4 (natL p.natAbs).length c4, .bool (decide (q < 0)), .slice A5 (natL q.natAbs).length c5, .bool (decide (r < 0)), .slice A6 (natL r.natAbs).length c6, .bool (decide (s < 0)), .slice A7 (natL s.natAbs).length c7]) n d m f p q r s) : FracAt w (.agg #[.bool (decide (r < 0)), .slice A6 (natL r.natAbs).length c6, .bool (decide (s < 0)), .slice A7 (natL s.natAbs).length c7]) r s := by
  obtain ⟨A'0, c'0, A'1, c'1, A'2, c'2, A'3, c'3, A'4, c'4, A'5, c'5, A'6, c'6, A'7, c'7, h0, h1, h2, h3, h4, h5, h6, h7, h8⟩ := h.form
  simp at h0
  obtain ⟨⟨rfl, rfl⟩, ⟨rfl, rfl⟩, ⟨rfl, rfl⟩, ⟨rfl, rfl⟩, ⟨rfl, rfl⟩, ⟨rfl, rfl⟩, ⟨rfl, rfl⟩, rfl, rfl⟩ := h0
  exact ⟨_, _, _, _, rfl, h7, h8⟩
end
theorem mstore {W w : World} {B g : Nat} {T : TypeId} {x0 x1 x2 x3 x4 x5 x6 x7 x8 x9 x10 x11 x12 x13 x14 x15 y0 y1 y2 y3 y4 y5 y6 y7 y8 y9 y10 y11 y12 y13 y14 y15 : Value} {n d m f p q r s : Int} (k : MatIn w (.agg #[y0, y1, y2, y3, y4, y5, y6, y7, y8, y9, y10, y11, y12, y13, y14, y15]) n d m f p q r s) (o : Hex w g T x0 x1 x2 x3 x4 x5 x6 x7 x8 x9 x10 x11 x12 x13 x14 x15) (hb : Below B W w) (hg : B ≤ g) (hT : 109 ≠ T) :
    Hex ((((((((((((((((w.setCell ⟨g, 0, none⟩ y0).setCell ⟨g, 1, none⟩ y1).setCell ⟨g, 2, none⟩ y2).setCell ⟨g, 3, none⟩ y3).setCell ⟨g, 4, none⟩ y4).setCell ⟨g, 5, none⟩ y5).setCell ⟨g, 6, none⟩ y6).setCell ⟨g, 7, none⟩ y7).setCell ⟨g, 8, none⟩ y8).setCell ⟨g, 9, none⟩ y9).setCell ⟨g, 10, none⟩ y10).setCell ⟨g, 11, none⟩ y11).setCell ⟨g, 12, none⟩ y12).setCell ⟨g, 13, none⟩ y13).setCell ⟨g, 14, none⟩ y14).setCell ⟨g, 15, none⟩ y15) g T y0 y1 y2 y3 y4 y5 y6 y7 y8 y9 y10 y11 y12 y13 y14 y15 ∧ Below B W ((((((((((((((((w.setCell ⟨g, 0, none⟩ y0).setCell ⟨g, 1, none⟩ y1).setCell ⟨g, 2, none⟩ y2).setCell ⟨g, 3, none⟩ y3).setCell ⟨g, 4, none⟩ y4).setCell ⟨g, 5, none⟩ y5).setCell ⟨g, 6, none⟩ y6).setCell ⟨g, 7, none⟩ y7).setCell ⟨g, 8, none⟩ y8).setCell ⟨g, 9, none⟩ y9).setCell ⟨g, 10, none⟩ y10).setCell ⟨g, 11, none⟩ y11).setCell ⟨g, 12, none⟩ y12).setCell ⟨g, 13, none⟩ y13).setCell ⟨g, 14, none⟩ y14).setCell ⟨g, 15, none⟩ y15) ∧ MatIn ((((((((((((((((w.setCell ⟨g, 0, none⟩ y0).setCell ⟨g, 1, none⟩ y1).setCell ⟨g, 2, none⟩ y2).setCell ⟨g, 3, none⟩ y3).setCell ⟨g, 4, none⟩ y4).setCell ⟨g, 5, none⟩ y5).setCell ⟨g, 6, none⟩ y6).setCell ⟨g, 7, none⟩ y7).setCell ⟨g, 8, none⟩ y8).setCell ⟨g, 9, none⟩ y9).setCell ⟨g, 10, none⟩ y10).setCell ⟨g, 11, none⟩ y11).setCell ⟨g, 12, none⟩ y12).setCell ⟨g, 13, none⟩ y13).setCell ⟨g, 14, none⟩ y14).setCell ⟨g, 15, none⟩ y15) (.agg #[y0, y1, y2, y3, y4, y5, y6, y7, y8, y9, y10, y11, y12, y13, y14, y15]) n d m f p q r s :=
  ⟨o.store y0 y1 y2 y3 y4 y5 y6 y7 y8 y9 y10 y11 y12 y13 y14 y15, below16 hb hg y0 y1 y2 y3 y4 y5 y6 y7 y8 y9 y10 y11 y12 y13 y14 y15, k.other o.blk hT (set16_far w g y0 y1 y2 y3 y4 y5 y6 y7 y8 y9 y10 y11 y12 y13 y14 y15)⟩
structure MV (w : World) (g : Nat) (T : TypeId) (n d m f p q r s : Int) (A0 A1 A2 A3 A4 A5 A6 A7 : Option Addr) (c0 c1 c2 c3 c4 c5 c6 c7 : Nat) : Prop where
  hex : Hex w g T (.bool (decide (n < 0))) (.slice A0 (natL n.natAbs).length c0) (.bool (decide (d < 0))) (.slice A1 (natL d.natAbs).length c1) (.bool (decide (m < 0))) (.slice A2 (natL m.natAbs).length c2) (.bool (decide (f < 0))) (.slice A3 (natL f.natAbs).length c3) (.bool (decide (p < 0))) (.slice A4 (natL p.natAbs).length c4) (.bool (decide (q < 0))) (.slice A5 (natL q.natAbs).length c5) (.bool (decide (r < 0))) (.slice A6 (natL r.natAbs).length c6) (.bool (decide (s < 0))) (.slice A7 (natL s.natAbs).length c7)
  at_ : MatAt w (.agg #[.bool (decide (n < 0)), .slice A0 (natL n.natAbs).length c0, .bool (decide (d < 0)), .slice A1 (natL d.natAbs).length c1, .bool (decide (m < 0)), .slice A2 (natL m.natAbs).length c2, .bool (decide (f < 0)), .slice A3 (natL f.natAbs).length c3, .bool (decide (p < 0)), .slice A4 (natL p.natAbs).length c4, .bool (decide (q < 0)), .slice A5 (natL q.natAbs).length c5, .bool (decide (r < 0)), .slice A6 (natL r.natAbs).length c6, .bool (decide (s < 0)), .slice A7 (natL s.natAbs).length c7]) n d m f p q r s
/- Package row: pair, turned, Times. (Written by wip/top/genmat.py.) -/

theorem boxes4 {w : World} {c1 c2 c3 c4 : Array Value} {T1 T2 T3 T4 : TypeId} {P : World → Prop} (h : ∀ W, Blk W w.heap.size T1 c1 → Blk W (w.heap.size + 1) T2 c2 → Blk W (w.heap.size + 1 + 1) T3 c3 → Blk W (w.heap.size + 1 + 1 + 1) T4 c4 → Below w.heap.size w W → P W) : P ((((w.alloc (.cells c1 T1)).alloc (.cells c2 T2)).alloc (.cells c3 T3)).alloc (.cells c4 T4)) := by
  refine boxes3 (w := w) (c1 := c1) (T1 := T1) (c2 := c2) (T2 := T2) (c3 := c3) (T3 := T3) (P := fun V => V.heap.size = w.heap.size + 1 + 1 + 1 → P (V.alloc (.cells c4 T4))) (fun V h1 h2 h3 hb hz => ?_) (by simp)
  have k := Blk.new V T4 c4
  rw [hz] at k
  exact h _ (h1.alloc _) (h2.alloc _) (h3.alloc _) k (hb.alloc (by omega) _)
theorem boxes5 {w : World} {c1 c2 c3 c4 c5 : Array Value} {T1 T2 T3 T4 T5 : TypeId} {P : World → Prop} (h : ∀ W, Blk W w.heap.size T1 c1 → Blk W (w.heap.size + 1) T2 c2 → Blk W (w.heap.size + 1 + 1) T3 c3 → Blk W (w.heap.size + 1 + 1 + 1) T4 c4 → Blk W (w.heap.size + 1 + 1 + 1 + 1) T5 c5 → Below w.heap.size w W → P W) : P (((((w.alloc (.cells c1 T1)).alloc (.cells c2 T2)).alloc (.cells c3 T3)).alloc (.cells c4 T4)).alloc (.cells c5 T5)) := by
  refine boxes4 (w := w) (c1 := c1) (T1 := T1) (c2 := c2) (T2 := T2) (c3 := c3) (T3 := T3) (c4 := c4) (T4 := T4) (P := fun V => V.heap.size = w.heap.size + 1 + 1 + 1 + 1 → P (V.alloc (.cells c5 T5))) (fun V h1 h2 h3 h4 hb hz => ?_) (by simp)
  have k := Blk.new V T5 c5
  rw [hz] at k
  exact h _ (h1.alloc _) (h2.alloc _) (h3.alloc _) (h4.alloc _) k (hb.alloc (by omega) _)
theorem matInfo : (Tryz.prog.info? 38).map (·.size) = some 16 := by kernel_rfl
abbrev PairI (F : FuncId) (n d m f p q r s N D : Int) : Prop := ∀ (V : World) (v1 v2 v3 v4 : Value), FracAt V v1 n d → FracAt V v2 m f → FracAt V v3 p q → FracAt V v4 r s → Calls Tryz.prog F #[v1, v2, v3, v4] V (RetFracIn V N D)

theorem pair_w {n d m f p q r s p1 p2 q1 q2 N D : Int} (C1 : OpI 67 n d m f p1 p2) (C2 : OpI 67 p q r s q1 q2) (C3 : OpI 66 p1 p2 q1 q2 N D) (w : World) (v_a v_b v_c v_e : Value) (g_a : FracAt w v_a n d) (g_b : FracAt w v_b m f) (g_c : FracAt w v_c p q) (g_e : FracAt w v_e r s)  :
    Calls Tryz.prog 78 #[v_a, v_b, v_c, v_e] w (RetFracIn w N D) := by
  obtain ⟨Aa1, ca1, Aa2, ca2, rfl, -⟩ := g_a.form
  obtain ⟨Ab1, cb1, Ab2, cb2, rfl, -⟩ := g_b.form
  obtain ⟨Ac1, cc1, Ac2, cc2, rfl, -⟩ := g_c.form
  obtain ⟨Ae1, ce1, Ae2, ce2, rfl, -⟩ := g_e.form
  have H1 := Hd C1
  have H2 := Hd C2
  have H3 := Hd C3
  clear C1 C2 C3
  have G_a := Hd g_a
  have G_b := Hd g_b
  have G_c := Hd g_c
  have G_e := Hd g_e
  clear g_a g_b g_c g_e
  go_enter Tryz.func78, Tryz.ntmps78
  go_upto_region 1 with fail
  refine boxes5 (P := fun W => Code.wp _ _ _ _ W) fun W p0 p1 p2 p3 p4 b0 => ?_
  have P_a := Hd (Quad.mk p0)
  have P_b := Hd (Quad.mk p1)
  have P_c := Hd (Quad.mk p2)
  have P_e := Hd (Quad.mk p3)
  have PR := Hd (Quad.mk p4)
  have HB := Hd b0
  clear b0 p0 p1 p2 p3 p4
  have hsz := PR.out.blk.lt
  go_wp2_with fail
  refine wp_region_free [.val (.agg #[.bool (decide (n < 0)), .slice Aa1 (natL n.natAbs).length ca1, .bool (decide (d < 0)), .slice Aa2 (natL d.natAbs).length ca2]) [], .val (.agg #[.bool (decide (m < 0)), .slice Ab1 (natL m.natAbs).length cb1, .bool (decide (f < 0)), .slice Ab2 (natL f.natAbs).length cb2]) [], .any false (fun u V => FracIn V 0 u p1 p2) [], .val (.agg #[.bool (decide (p < 0)), .slice Ac1 (natL p.natAbs).length cc1, .bool (decide (q < 0)), .slice Ac2 (natL q.natAbs).length cc2]) [], .val (.agg #[.bool (decide (r < 0)), .slice Ae1 (natL r.natAbs).length ce1, .bool (decide (s < 0)), .slice Ae2 (natL s.natAbs).length ce2]) [], .any false (fun u V => FracIn V 0 u q1 q2) [], .any false (fun u V => FracIn V 0 u N D) [2, 5], .old (w.heap.size + 1 + 1 + 1 + 1) 27 #[.bool false, .slice none 0 0, .bool false, .slice none 0 0] 0 4 6 []] (w.heap.size + 1 + 1 + 1 + 1) W [27] (fun _ _ => False) _ mixedOrders2 (by omega) (Below.refl _ _) (KeptV.refl _ _ _) rfl (by kernel_rfl) (by kernel_rfl) (by kernel_rfl) (by kernel_rfl) (by kernel_rfl) (by kernel_rfl) (by kernel_rfl) (by kernel_rfl) rfl (by simp [oldsF]) ?_ ?_ ?_ ?_
  · simp only [StableF, and_true]
    exact ⟨fun u V V' h k => h.kept k (by decide), fun u V V' h k => h.kept k (by decide), fun u V V' h k => h.kept k (by decide)⟩
  · simp only [OldsF, and_true]
    exact ⟨Nat.le_refl _, PR.out.blk.lt, PR.out.blk, by simp⟩
  · simp (maxSteps := 4000000) [StepsF, DepF, freeAct, fill, pairs]
    repeat' (first | apply And.intro | (intro (u : Value)) | (intro (u : Nat)))
    all_goals try exact ⟨_, _, _, rfl, rfl, rfl, rfl, fracInfo⟩
    all_goals first
    | (intro V hV hK
       have qa : Quad V (w.heap.size) _ _ _ _ := ⟨P_a.out.blk.below hV (by omega)⟩
       obtain ⟨-, a_a0, a_a1, a_a2, a_a3, -, -, -, -⟩ := qa.facts
       have qb : Quad V (w.heap.size + 1) _ _ _ _ := ⟨P_b.out.blk.below hV (by omega)⟩
       obtain ⟨-, a_b0, a_b1, a_b2, a_b3, -, -, -, -⟩ := qb.facts
       have qc : Quad V (w.heap.size + 1 + 1) _ _ _ _ := ⟨P_c.out.blk.below hV (by omega)⟩
       obtain ⟨-, a_c0, a_c1, a_c2, a_c3, -, -, -, -⟩ := qc.facts
       have qe : Quad V (w.heap.size + 1 + 1 + 1) _ _ _ _ := ⟨P_e.out.blk.below hV (by omega)⟩
       obtain ⟨-, a_e0, a_e1, a_e2, a_e3, -, -, -, -⟩ := qe.facts
       have hvb := HB.out.trans (hV.mono (by omega))
       have hvs := hvb.size
       have g_a := Hd (G_a.out.below hvb)
       have g_b := Hd (G_b.out.below hvb)
       have g_c := Hd (G_c.out.below hvb)
       have g_e := Hd (G_e.out.below hvb)
       clear hV hK qa qb qc qe
       go_simp
       first
       | exact Below.refl _ _
       | ((with_reducible refine (H1.out V _ _ g_a.out g_b.out).mono ?_); rintro e w' ⟨v, rfl, hv, hb⟩; exact ⟨hv, hb⟩)
       | ((with_reducible refine (H2.out V _ _ g_c.out g_e.out).mono ?_); rintro e w' ⟨v, rfl, hv, hb⟩; exact ⟨hv, hb⟩))
    | (intro V hV hK h1 h2
       have qa : Quad V (w.heap.size) _ _ _ _ := ⟨P_a.out.blk.below hV (by omega)⟩
       obtain ⟨-, a_a0, a_a1, a_a2, a_a3, -, -, -, -⟩ := qa.facts
       have qb : Quad V (w.heap.size + 1) _ _ _ _ := ⟨P_b.out.blk.below hV (by omega)⟩
       obtain ⟨-, a_b0, a_b1, a_b2, a_b3, -, -, -, -⟩ := qb.facts
       have qc : Quad V (w.heap.size + 1 + 1) _ _ _ _ := ⟨P_c.out.blk.below hV (by omega)⟩
       obtain ⟨-, a_c0, a_c1, a_c2, a_c3, -, -, -, -⟩ := qc.facts
       have qe : Quad V (w.heap.size + 1 + 1 + 1) _ _ _ _ := ⟨P_e.out.blk.below hV (by omega)⟩
       obtain ⟨-, a_e0, a_e1, a_e2, a_e3, -, -, -, -⟩ := qe.facts
       have hvb := HB.out.trans (hV.mono (by omega))
       have hvs := hvb.size
       have g_a := Hd (G_a.out.below hvb)
       have g_b := Hd (G_b.out.below hvb)
       have g_c := Hd (G_c.out.below hvb)
       have g_e := Hd (G_e.out.below hvb)
       clear hV hK qa qb qc qe
       go_simp
       ((with_reducible refine (H3.out V _ _ h1.at_ h2.at_).mono ?_); rintro e w' ⟨v, rfl, hv, hb⟩; exact ⟨hv, hb⟩))
    | exact fun _ _ _ (h : FracIn _ _ _ _ _) => h.cells
  · simp [EndF, FactsF, freeAct, fill, pairs]
    intro u1 u2 u3 V hV hK h1 h2 h3 bq _ _ _
    have HF := Hd h3
    obtain ⟨A6, c6, A7, c7, rfl, -⟩ := h3.form
    simp [setAll, Value.cells] at bq
    have k0 := bq.cell 0
    have k1 := bq.cell 1
    have k2 := bq.cell 2
    have k3 := bq.cell 3
    simp at k0 k1 k2 k3
    have HB9 := Hd (HB.out.trans (hV.mono (by omega)))
    clear h1 h2 h3 hV hK bq
    go_wp2_with fail
    exact bodyPost_ret (by simp [results, Tryz.results78, go_sem, k0, k1, k2, k3]) rfl ⟨_, rfl, HF.out, HB9.out⟩

theorem pair_i {n d m f p q r s p1 p2 q1 q2 N D : Int} (C1 : OpI 67 n d m f p1 p2) (C2 : OpI 67 p q r s q1 q2) (C3 : OpI 66 p1 p2 q1 q2 N D) : PairI 78 n d m f p q r s N D := fun V v1 v2 v3 v4 g1 g2 g3 g4 => pair_w C1 C2 C3 V v1 v2 v3 v4 g1 g2 g3 g4

theorem turned_w {n d m f N D : Int} (C1 : OpI0 93 m f) (C2 : OpI 72 m f n d N D) (w : World) (v_a : Value) (g_a : FracAt w v_a n d)  :
    Calls Tryz.prog 82 #[v_a] w (RetFracIn w N D) := by
  obtain ⟨Aa1, ca1, Aa2, ca2, rfl, -⟩ := g_a.form
  have H1 := Hd C1
  have H2 := Hd C2
  clear C1 C2
  have G_a := Hd g_a
  clear g_a
  go_enter Tryz.func82, Tryz.ntmps82
  go_upto_region 1 with fail
  refine boxes2 (P := fun W => Code.wp _ _ _ _ W) fun W p0 p1 b0 => ?_
  have P_a := Hd (Quad.mk p0)
  have PR := Hd (Quad.mk p1)
  have HB := Hd b0
  clear b0 p0 p1
  have hsz := PR.out.blk.lt
  go_wp2_with fail
  refine wp_region_free [.any false (fun u V => FracIn V 0 u m f) [], .val (.agg #[.bool (decide (n < 0)), .slice Aa1 (natL n.natAbs).length ca1, .bool (decide (d < 0)), .slice Aa2 (natL d.natAbs).length ca2]) [], .any false (fun u V => FracIn V 0 u N D) [0], .old (w.heap.size + 1) 27 #[.bool false, .slice none 0 0, .bool false, .slice none 0 0] 0 4 2 []] (w.heap.size + 1) W [27] (fun _ _ => False) _ mixedOrders2 (by omega) (Below.refl _ _) (KeptV.refl _ _ _) rfl (by kernel_rfl) (by kernel_rfl) (by kernel_rfl) (by kernel_rfl) (by kernel_rfl) (by kernel_rfl) (by kernel_rfl) (by kernel_rfl) rfl (by simp [oldsF]) ?_ ?_ ?_ ?_
  · simp only [StableF, and_true]
    exact ⟨fun u V V' h k => h.kept k (by decide), fun u V V' h k => h.kept k (by decide)⟩
  · simp only [OldsF, and_true]
    exact ⟨Nat.le_refl _, PR.out.blk.lt, PR.out.blk, by simp⟩
  · simp (maxSteps := 4000000) [StepsF, DepF, freeAct, fill, pairs]
    repeat' (first | apply And.intro | (intro (u : Value)) | (intro (u : Nat)))
    all_goals try exact ⟨_, _, _, rfl, rfl, rfl, rfl, fracInfo⟩
    all_goals first
    | (intro V hV hK
       have qa : Quad V (w.heap.size) _ _ _ _ := ⟨P_a.out.blk.below hV (by omega)⟩
       obtain ⟨-, a_a0, a_a1, a_a2, a_a3, -, -, -, -⟩ := qa.facts
       have hvb := HB.out.trans (hV.mono (by omega))
       have hvs := hvb.size
       have g_a := Hd (G_a.out.below hvb)
       clear hV hK qa
       go_simp
       first
       | exact Below.refl _ _
       | ((with_reducible refine (H1.out V).mono ?_); rintro e w' ⟨v, rfl, hv, hb⟩; exact ⟨hv, hb⟩))
    | (intro V hV hK h1
       have qa : Quad V (w.heap.size) _ _ _ _ := ⟨P_a.out.blk.below hV (by omega)⟩
       obtain ⟨-, a_a0, a_a1, a_a2, a_a3, -, -, -, -⟩ := qa.facts
       have hvb := HB.out.trans (hV.mono (by omega))
       have hvs := hvb.size
       have g_a := Hd (G_a.out.below hvb)
       clear hV hK qa
       go_simp
       ((with_reducible refine (H2.out V _ _ h1.at_ g_a.out).mono ?_); rintro e w' ⟨v, rfl, hv, hb⟩; exact ⟨hv, hb⟩))
    | exact fun _ _ _ (h : FracIn _ _ _ _ _) => h.cells
  · simp [EndF, FactsF, freeAct, fill, pairs]
    intro u1 u2 V hV hK h1 h2 bq _ _ _
    have HF := Hd h2
    obtain ⟨A6, c6, A7, c7, rfl, -⟩ := h2.form
    simp [setAll, Value.cells] at bq
    have k0 := bq.cell 0
    have k1 := bq.cell 1
    have k2 := bq.cell 2
    have k3 := bq.cell 3
    simp at k0 k1 k2 k3
    have HB9 := Hd (HB.out.trans (hV.mono (by omega)))
    clear h1 h2 hV hK bq
    go_wp2_with fail
    exact bodyPost_ret (by simp [results, Tryz.results82, go_sem, k0, k1, k2, k3]) rfl ⟨_, rfl, HF.out, HB9.out⟩

theorem mtimes_w {n1 d1 n2 d2 n3 d3 n4 d4 m1 f1 m2 f2 m3 f3 m4 f4 N1 D1 N2 D2 N3 D3 N4 D4 : Int} (C1 : PairI 78 n1 d1 m1 f1 n2 d2 m3 f3 N1 D1) (C2 : PairI 78 n1 d1 m2 f2 n2 d2 m4 f4 N2 D2) (C3 : PairI 78 n3 d3 m1 f1 n4 d4 m3 f3 N3 D3) (C4 : PairI 78 n3 d3 m2 f2 n4 d4 m4 f4 N4 D4) (w : World) (v_x v_y : Value) (g_x : MatAt w v_x n1 d1 n2 d2 n3 d3 n4 d4) (g_y : MatAt w v_y m1 f1 m2 f2 m3 f3 m4 f4)  :
    Calls Tryz.prog 63 #[v_x, v_y] w (RetMatIn w N1 D1 N2 D2 N3 D3 N4 D4) := by
  obtain ⟨Ax1, cx1, Ax2, cx2, Ax3, cx3, Ax4, cx4, Ax5, cx5, Ax6, cx6, Ax7, cx7, Ax8, cx8, rfl, -⟩ := g_x.form
  obtain ⟨Ay1, cy1, Ay2, cy2, Ay3, cy3, Ay4, cy4, Ay5, cy5, Ay6, cy6, Ay7, cy7, Ay8, cy8, rfl, -⟩ := g_y.form
  have H1 := Hd C1
  have H2 := Hd C2
  have H3 := Hd C3
  have H4 := Hd C4
  clear C1 C2 C3 C4
  have G_x := Hd g_x
  have G_y := Hd g_y
  clear g_x g_y
  go_enter Tryz.func63, Tryz.ntmps63
  go_upto_region 1 with fail
  refine boxes3 (P := fun W => Code.wp _ _ _ _ W) fun W p0 p1 p2 b0 => ?_
  have P_x := Hd (Hex.mk p0)
  have P_y := Hd (Hex.mk p1)
  have PR := Hd (Hex.mk p2)
  have HB := Hd b0
  clear b0 p0 p1 p2
  have hsz := PR.out.blk.lt
  go_wp2_with fail
  refine wp_region_free [.val (.pointer (some ⟨w.heap.size, 0, none⟩)) [], .val (.agg #[.bool (decide (n1 < 0)), .slice Ax1 (natL n1.natAbs).length cx1, .bool (decide (d1 < 0)), .slice Ax2 (natL d1.natAbs).length cx2]) [], .val (.pointer (some ⟨w.heap.size + 1, 0, none⟩)) [], .val (.agg #[.bool (decide (m1 < 0)), .slice Ay1 (natL m1.natAbs).length cy1, .bool (decide (f1 < 0)), .slice Ay2 (natL f1.natAbs).length cy2]) [], .val (.pointer (some ⟨w.heap.size, 4, none⟩)) [], .val (.agg #[.bool (decide (n2 < 0)), .slice Ax3 (natL n2.natAbs).length cx3, .bool (decide (d2 < 0)), .slice Ax4 (natL d2.natAbs).length cx4]) [], .val (.pointer (some ⟨w.heap.size + 1, 8, none⟩)) [], .val (.agg #[.bool (decide (m3 < 0)), .slice Ay5 (natL m3.natAbs).length cy5, .bool (decide (f3 < 0)), .slice Ay6 (natL f3.natAbs).length cy6]) [], .any false (fun u V => FracIn V 0 u N1 D1) [], .val (.pointer (some ⟨w.heap.size, 0, none⟩)) [], .val (.agg #[.bool (decide (n1 < 0)), .slice Ax1 (natL n1.natAbs).length cx1, .bool (decide (d1 < 0)), .slice Ax2 (natL d1.natAbs).length cx2]) [], .val (.pointer (some ⟨w.heap.size + 1, 4, none⟩)) [], .val (.agg #[.bool (decide (m2 < 0)), .slice Ay3 (natL m2.natAbs).length cy3, .bool (decide (f2 < 0)), .slice Ay4 (natL f2.natAbs).length cy4]) [], .val (.pointer (some ⟨w.heap.size, 4, none⟩)) [], .val (.agg #[.bool (decide (n2 < 0)), .slice Ax3 (natL n2.natAbs).length cx3, .bool (decide (d2 < 0)), .slice Ax4 (natL d2.natAbs).length cx4]) [], .val (.pointer (some ⟨w.heap.size + 1, 12, none⟩)) [], .val (.agg #[.bool (decide (m4 < 0)), .slice Ay7 (natL m4.natAbs).length cy7, .bool (decide (f4 < 0)), .slice Ay8 (natL f4.natAbs).length cy8]) [], .any false (fun u V => FracIn V 0 u N2 D2) [], .val (.pointer (some ⟨w.heap.size, 8, none⟩)) [], .val (.agg #[.bool (decide (n3 < 0)), .slice Ax5 (natL n3.natAbs).length cx5, .bool (decide (d3 < 0)), .slice Ax6 (natL d3.natAbs).length cx6]) [], .val (.pointer (some ⟨w.heap.size + 1, 0, none⟩)) [], .val (.agg #[.bool (decide (m1 < 0)), .slice Ay1 (natL m1.natAbs).length cy1, .bool (decide (f1 < 0)), .slice Ay2 (natL f1.natAbs).length cy2]) [], .val (.pointer (some ⟨w.heap.size, 12, none⟩)) [], .val (.agg #[.bool (decide (n4 < 0)), .slice Ax7 (natL n4.natAbs).length cx7, .bool (decide (d4 < 0)), .slice Ax8 (natL d4.natAbs).length cx8]) [], .val (.pointer (some ⟨w.heap.size + 1, 8, none⟩)) [], .val (.agg #[.bool (decide (m3 < 0)), .slice Ay5 (natL m3.natAbs).length cy5, .bool (decide (f3 < 0)), .slice Ay6 (natL f3.natAbs).length cy6]) [], .any false (fun u V => FracIn V 0 u N3 D3) [], .val (.pointer (some ⟨w.heap.size, 8, none⟩)) [], .val (.agg #[.bool (decide (n3 < 0)), .slice Ax5 (natL n3.natAbs).length cx5, .bool (decide (d3 < 0)), .slice Ax6 (natL d3.natAbs).length cx6]) [], .val (.pointer (some ⟨w.heap.size + 1, 4, none⟩)) [], .val (.agg #[.bool (decide (m2 < 0)), .slice Ay3 (natL m2.natAbs).length cy3, .bool (decide (f2 < 0)), .slice Ay4 (natL f2.natAbs).length cy4]) [], .val (.pointer (some ⟨w.heap.size, 12, none⟩)) [], .val (.agg #[.bool (decide (n4 < 0)), .slice Ax7 (natL n4.natAbs).length cx7, .bool (decide (d4 < 0)), .slice Ax8 (natL d4.natAbs).length cx8]) [], .val (.pointer (some ⟨w.heap.size + 1, 12, none⟩)) [], .val (.agg #[.bool (decide (m4 < 0)), .slice Ay7 (natL m4.natAbs).length cy7, .bool (decide (f4 < 0)), .slice Ay8 (natL f4.natAbs).length cy8]) [], .any false (fun u V => FracIn V 0 u N4 D4) [], .any false (fun u V => MatIn V u N1 D1 N2 D2 N3 D3 N4 D4) [8, 17, 26, 35], .old (w.heap.size + 1 + 1) 38 #[.bool false, .slice none 0 0, .bool false, .slice none 0 0, .bool false, .slice none 0 0, .bool false, .slice none 0 0, .bool false, .slice none 0 0, .bool false, .slice none 0 0, .bool false, .slice none 0 0, .bool false, .slice none 0 0] 0 16 36 []] (w.heap.size + 1 + 1) W [38] (fun _ _ => False) _ mixedOrders2 (by omega) (Below.refl _ _) (KeptV.refl _ _ _) rfl (by kernel_rfl) (by kernel_rfl) (by kernel_rfl) (by kernel_rfl) (by kernel_rfl) (by kernel_rfl) (by kernel_rfl) (by kernel_rfl) rfl (by simp [oldsF]) ?_ ?_ ?_ ?_
  · simp only [StableF, and_true]
    exact ⟨fun u V V' h k => h.kept k (by decide), fun u V V' h k => h.kept k (by decide), fun u V V' h k => h.kept k (by decide), fun u V V' h k => h.kept k (by decide), fun u V V' h k => h.kept k (by decide)⟩
  · simp only [OldsF, and_true]
    exact ⟨Nat.le_refl _, PR.out.blk.lt, PR.out.blk, by simp⟩
  · simp (maxSteps := 4000000) [StepsF, DepF, freeAct, fill, pairs]
    repeat' (first | apply And.intro | (intro (u : Value)) | (intro (u : Nat)))
    all_goals try exact ⟨_, _, _, rfl, rfl, rfl, rfl, matInfo⟩
    all_goals first
    | (intro V hV hK
       have qx : Hex V (w.heap.size) _ _ _ _ _ _ _ _ _ _ _ _ _ _ _ _ _ := ⟨P_x.out.blk.below hV (by omega)⟩
       obtain ⟨-, a_x0, a_x1, a_x2, a_x3, a_x4, a_x5, a_x6, a_x7, a_x8, a_x9, a_x10, a_x11, a_x12, a_x13, a_x14, a_x15⟩ := qx.facts
       have qy : Hex V (w.heap.size + 1) _ _ _ _ _ _ _ _ _ _ _ _ _ _ _ _ _ := ⟨P_y.out.blk.below hV (by omega)⟩
       obtain ⟨-, a_y0, a_y1, a_y2, a_y3, a_y4, a_y5, a_y6, a_y7, a_y8, a_y9, a_y10, a_y11, a_y12, a_y13, a_y14, a_y15⟩ := qy.facts
       have hvb := HB.out.trans (hV.mono (by omega))
       have hvs := hvb.size
       have g_x := Hd (G_x.out.below hvb)
       have g_y := Hd (G_y.out.below hvb)
       clear hV hK qx qy
       go_simp
       first
       | exact Below.refl _ _
       | ((with_reducible refine (H1.out V _ _ _ _ g_x.out.fa g_y.out.fa g_x.out.fb g_y.out.fc).mono ?_); rintro e w' ⟨v, rfl, hv, hb⟩; exact ⟨hv, hb⟩)
       | ((with_reducible refine (H2.out V _ _ _ _ g_x.out.fa g_y.out.fb g_x.out.fb g_y.out.fd).mono ?_); rintro e w' ⟨v, rfl, hv, hb⟩; exact ⟨hv, hb⟩)
       | ((with_reducible refine (H3.out V _ _ _ _ g_x.out.fc g_y.out.fa g_x.out.fd g_y.out.fc).mono ?_); rintro e w' ⟨v, rfl, hv, hb⟩; exact ⟨hv, hb⟩)
       | ((with_reducible refine (H4.out V _ _ _ _ g_x.out.fc g_y.out.fb g_x.out.fd g_y.out.fd).mono ?_); rintro e w' ⟨v, rfl, hv, hb⟩; exact ⟨hv, hb⟩))
    | (intro V hV hK h1 h2 h3 h4
       obtain ⟨A1, c1, B1, e1, rfl, -, -⟩ := h1.form
       obtain ⟨A2, c2, B2, e2, rfl, -, -⟩ := h2.form
       obtain ⟨A3, c3, B3, e3, rfl, -, -⟩ := h3.form
       obtain ⟨A4, c4, B4, e4, rfl, -, -⟩ := h4.form
       clear hV hK
       go_simp
       exact ⟨⟨_, _, _, _, _, _, _, _, _, _, _, _, _, _, _, _, rfl, h1, h2, h3, h4⟩, Below.refl _ _⟩)
    | exact fun _ _ _ (h : MatIn _ _ _ _ _ _ _ _ _ _) => h.cells
  · simp [EndF, FactsF, freeAct, fill, pairs]
    intro u1 u2 u3 u4 u5 V hV hK h1 h2 h3 h4 h5 bq _ _ _
    have HF := Hd h5
    obtain ⟨A60, c60, A61, c61, A62, c62, A63, c63, A64, c64, A65, c65, A66, c66, A67, c67, rfl, -⟩ := h5.form
    simp [setAll, Value.cells] at bq
    have k0 := bq.cell 0
    have k1 := bq.cell 1
    have k2 := bq.cell 2
    have k3 := bq.cell 3
    have k4 := bq.cell 4
    have k5 := bq.cell 5
    have k6 := bq.cell 6
    have k7 := bq.cell 7
    have k8 := bq.cell 8
    have k9 := bq.cell 9
    have k10 := bq.cell 10
    have k11 := bq.cell 11
    have k12 := bq.cell 12
    have k13 := bq.cell 13
    have k14 := bq.cell 14
    have k15 := bq.cell 15
    simp at k0 k1 k2 k3 k4 k5 k6 k7 k8 k9 k10 k11 k12 k13 k14 k15
    have HB9 := Hd (HB.out.trans (hV.mono (by omega)))
    clear h1 h2 h3 h4 h5 hV hK bq
    go_wp2_with fail
    exact bodyPost_ret (by simp [results, Tryz.results63, go_sem, k0, k1, k2, k3, k4, k5, k6, k7, k8, k9, k10, k11, k12, k13, k14, k15]) rfl ⟨_, rfl, HF.out, HB9.out⟩
/- Variables of nine cells; a matrix in a variable, its limbs in memory that is limbs alone; the closures of row.Of. (Written by wip/top/genof.py.) -/

structure Nine (w : World) (g : Nat) (T : TypeId) (y0 y1 y2 y3 y4 y5 y6 y7 y8 : Value) : Prop where
  blk : Blk w g T #[y0, y1, y2, y3, y4, y5, y6, y7, y8]
theorem Nine.below {w w' : World} {g : Nat} {T : TypeId} {y0 y1 y2 y3 y4 y5 y6 y7 y8 : Value} (k : Nine w g T y0 y1 y2 y3 y4 y5 y6 y7 y8) (hb : Below w.heap.size w w') : Nine w' g T y0 y1 y2 y3 y4 y5 y6 y7 y8 := ⟨k.blk.below hb k.blk.lt⟩
theorem Nine.facts {w : World} {g : Nat} {T : TypeId} {y0 y1 y2 y3 y4 y5 y6 y7 y8 : Value} (k : Nine w g T y0 y1 y2 y3 y4 y5 y6 y7 y8) : g < w.heap.size ∧ w.cell? ⟨g, 0, none⟩ = some y0 ∧ w.cell? ⟨g, 1, none⟩ = some y1 ∧ w.cell? ⟨g, 2, none⟩ = some y2 ∧ w.cell? ⟨g, 3, none⟩ = some y3 ∧ w.cell? ⟨g, 4, none⟩ = some y4 ∧ w.cell? ⟨g, 5, none⟩ = some y5 ∧ w.cell? ⟨g, 6, none⟩ = some y6 ∧ w.cell? ⟨g, 7, none⟩ = some y7 ∧ w.cell? ⟨g, 8, none⟩ = some y8 := by
  have h := k.blk.cell
  exact ⟨k.blk.lt, by have := h 0; simpa using this, by have := h 1; simpa using this, by have := h 2; simpa using this, by have := h 3; simpa using this, by have := h 4; simpa using this, by have := h 5; simpa using this, by have := h 6; simpa using this, by have := h 7; simpa using this, by have := h 8; simpa using this⟩
structure MO (w : World) (g : Nat) (T : TypeId) (n1 d1 n2 d2 n3 d3 n4 d4 : Int) : Prop where
  form : ∃ A0 c0 A1 c1 A2 c2 A3 c3 A4 c4 A5 c5 A6 c6 A7 c7, Hex w g T (.bool (decide (n1 < 0))) (.slice A0 (natL n1.natAbs).length c0) (.bool (decide (d1 < 0))) (.slice A1 (natL d1.natAbs).length c1) (.bool (decide (n2 < 0))) (.slice A2 (natL n2.natAbs).length c2) (.bool (decide (d2 < 0))) (.slice A3 (natL d2.natAbs).length c3) (.bool (decide (n3 < 0))) (.slice A4 (natL n3.natAbs).length c4) (.bool (decide (d3 < 0))) (.slice A5 (natL d3.natAbs).length c5) (.bool (decide (n4 < 0))) (.slice A6 (natL n4.natAbs).length c6) (.bool (decide (d4 < 0))) (.slice A7 (natL d4.natAbs).length c7) ∧ MatIn w (.agg #[.bool (decide (n1 < 0)), .slice A0 (natL n1.natAbs).length c0, .bool (decide (d1 < 0)), .slice A1 (natL d1.natAbs).length c1, .bool (decide (n2 < 0)), .slice A2 (natL n2.natAbs).length c2, .bool (decide (d2 < 0)), .slice A3 (natL d2.natAbs).length c3, .bool (decide (n3 < 0)), .slice A4 (natL n3.natAbs).length c4, .bool (decide (d3 < 0)), .slice A5 (natL d3.natAbs).length c5, .bool (decide (n4 < 0)), .slice A6 (natL n4.natAbs).length c6, .bool (decide (d4 < 0)), .slice A7 (natL d4.natAbs).length c7]) n1 d1 n2 d2 n3 d3 n4 d4
theorem MO.below {w w' : World} {g : Nat} {T : TypeId} {n1 d1 n2 d2 n3 d3 n4 d4 : Int} (k : MO w g T n1 d1 n2 d2 n3 d3 n4 d4) (hb : Below w.heap.size w w') : MO w' g T n1 d1 n2 d2 n3 d3 n4 d4 := by
  obtain ⟨A0, c0, A1, c1, A2, c2, A3, c3, A4, c4, A5, c5, A6, c6, A7, c7, h1, h2⟩ := k.form
  exact ⟨A0, c0, A1, c1, A2, c2, A3, c3, A4, c4, A5, c5, A6, c6, A7, c7, h1.below hb, h2.below hb⟩
theorem MatIn.split {w : World} {n1 d1 n2 d2 n3 d3 n4 d4 : Int} {A0 A1 A2 A3 A4 A5 A6 A7 : Option Addr} {c0 c1 c2 c3 c4 c5 c6 c7 : Nat} (h : MatIn w (.agg #[.bool (decide (n1 < 0)), .slice A0 (natL n1.natAbs).length c0, .bool (decide (d1 < 0)), .slice A1 (natL d1.natAbs).length c1, .bool (decide (n2 < 0)), .slice A2 (natL n2.natAbs).length c2, .bool (decide (d2 < 0)), .slice A3 (natL d2.natAbs).length c3, .bool (decide (n3 < 0)), .slice A4 (natL n3.natAbs).length c4, .bool (decide (d3 < 0)), .slice A5 (natL d3.natAbs).length c5, .bool (decide (n4 < 0)), .slice A6 (natL n4.natAbs).length c6, .bool (decide (d4 < 0)), .slice A7 (natL d4.natAbs).length c7]) n1 d1 n2 d2 n3 d3 n4 d4) : FracIn w 0 (.agg #[.bool (decide (n1 < 0)), .slice A0 (natL n1.natAbs).length c0, .bool (decide (d1 < 0)), .slice A1 (natL d1.natAbs).length c1]) n1 d1 ∧ FracIn w 0 (.agg #[.bool (decide (n2 < 0)), .slice A2 (natL n2.natAbs).length c2, .bool (decide (d2 < 0)), .slice A3 (natL d2.natAbs).length c3]) n2 d2 ∧ FracIn w 0 (.agg #[.bool (decide (n3 < 0)), .slice A4 (natL n3.natAbs).length c4, .bool (decide (d3 < 0)), .slice A5 (natL d3.natAbs).length c5]) n3 d3 ∧ FracIn w 0 (.agg #[.bool (decide (n4 < 0)), .slice A6 (natL n4.natAbs).length c6, .bool (decide (d4 < 0)), .slice A7 (natL d4.natAbs).length c7]) n4 d4 := by
  obtain ⟨A'0, c'0, A'1, c'1, A'2, c'2, A'3, c'3, A'4, c'4, A'5, c'5, A'6, c'6, A'7, c'7, h0, h1, h2, h3, h4⟩ := h.form
  simp at h0
  obtain ⟨⟨rfl, rfl⟩, ⟨rfl, rfl⟩, ⟨rfl, rfl⟩, ⟨rfl, rfl⟩, ⟨rfl, rfl⟩, ⟨rfl, rfl⟩, ⟨rfl, rfl⟩, rfl, rfl⟩ := h0
  exact ⟨h1, h2, h3, h4⟩
theorem putB {w : World} {g : Nat} {T : TypeId} {n1 d1 n2 d2 n3 d3 n4 d4 N D : Int} {A0 A1 A2 A3 A4 A5 A6 A7 P Q : Option Addr} {c0 c1 c2 c3 c4 c5 c6 c7 k l : Nat} (k_ : Hex w g T (.bool (decide (n1 < 0))) (.slice A0 (natL n1.natAbs).length c0) (.bool (decide (d1 < 0))) (.slice A1 (natL d1.natAbs).length c1) (.bool (decide (n2 < 0))) (.slice A2 (natL n2.natAbs).length c2) (.bool (decide (d2 < 0))) (.slice A3 (natL d2.natAbs).length c3) (.bool (decide (n3 < 0))) (.slice A4 (natL n3.natAbs).length c4) (.bool (decide (d3 < 0))) (.slice A5 (natL d3.natAbs).length c5) (.bool (decide (n4 < 0))) (.slice A6 (natL n4.natAbs).length c6) (.bool (decide (d4 < 0))) (.slice A7 (natL d4.natAbs).length c7)) (m_ : MatIn w (.agg #[.bool (decide (n1 < 0)), .slice A0 (natL n1.natAbs).length c0, .bool (decide (d1 < 0)), .slice A1 (natL d1.natAbs).length c1, .bool (decide (n2 < 0)), .slice A2 (natL n2.natAbs).length c2, .bool (decide (d2 < 0)), .slice A3 (natL d2.natAbs).length c3, .bool (decide (n3 < 0)), .slice A4 (natL n3.natAbs).length c4, .bool (decide (d3 < 0)), .slice A5 (natL d3.natAbs).length c5, .bool (decide (n4 < 0)), .slice A6 (natL n4.natAbs).length c6, .bool (decide (d4 < 0)), .slice A7 (natL d4.natAbs).length c7]) n1 d1 n2 d2 n3 d3 n4 d4) (f_ : FracIn w 0 (.agg #[.bool (decide (N < 0)), .slice P (natL N.natAbs).length k, .bool (decide (D < 0)), .slice Q (natL D.natAbs).length l]) N D) (hT : 109 ≠ T) :
    MO ((((w.setCell ⟨g, 4, none⟩ (.bool (decide (N < 0)))).setCell ⟨g, 5, none⟩ (.slice P (natL N.natAbs).length k)).setCell ⟨g, 6, none⟩ (.bool (decide (D < 0)))).setCell ⟨g, 7, none⟩ (.slice Q (natL D.natAbs).length l)) g T n1 d1 N D n3 d3 n4 d4 ∧ Below g w ((((w.setCell ⟨g, 4, none⟩ (.bool (decide (N < 0)))).setCell ⟨g, 5, none⟩ (.slice P (natL N.natAbs).length k)).setCell ⟨g, 6, none⟩ (.bool (decide (D < 0)))).setCell ⟨g, 7, none⟩ (.slice Q (natL D.natAbs).length l)) := by
  have key := ((((k_.blk.set_ 4 (.bool (decide (N < 0)))).set_ 5 (.slice P (natL N.natAbs).length k)).set_ 6 (.bool (decide (D < 0)))).set_ 7 (.slice Q (natL D.natAbs).length l))
  have e9 : (((((#[.bool (decide (n1 < 0)), .slice A0 (natL n1.natAbs).length c0, .bool (decide (d1 < 0)), .slice A1 (natL d1.natAbs).length c1, .bool (decide (n2 < 0)), .slice A2 (natL n2.natAbs).length c2, .bool (decide (d2 < 0)), .slice A3 (natL d2.natAbs).length c3, .bool (decide (n3 < 0)), .slice A4 (natL n3.natAbs).length c4, .bool (decide (d3 < 0)), .slice A5 (natL d3.natAbs).length c5, .bool (decide (n4 < 0)), .slice A6 (natL n4.natAbs).length c6, .bool (decide (d4 < 0)), .slice A7 (natL d4.natAbs).length c7] : Array Value).setIfInBounds 4 (.bool (decide (N < 0)))).setIfInBounds 5 (.slice P (natL N.natAbs).length k)).setIfInBounds 6 (.bool (decide (D < 0)))).setIfInBounds 7 (.slice Q (natL D.natAbs).length l)) = #[.bool (decide (n1 < 0)), .slice A0 (natL n1.natAbs).length c0, .bool (decide (d1 < 0)), .slice A1 (natL d1.natAbs).length c1, .bool (decide (N < 0)), .slice P (natL N.natAbs).length k, .bool (decide (D < 0)), .slice Q (natL D.natAbs).length l, .bool (decide (n3 < 0)), .slice A4 (natL n3.natAbs).length c4, .bool (decide (d3 < 0)), .slice A5 (natL d3.natAbs).length c5, .bool (decide (n4 < 0)), .slice A6 (natL n4.natAbs).length c6, .bool (decide (d4 < 0)), .slice A7 (natL d4.natAbs).length c7] := by simp
  rw [e9] at key
  have far : ∀ j, j ≠ g → ((((w.setCell ⟨g, 4, none⟩ (.bool (decide (N < 0)))).setCell ⟨g, 5, none⟩ (.slice P (natL N.natAbs).length k)).setCell ⟨g, 6, none⟩ (.bool (decide (D < 0)))).setCell ⟨g, 7, none⟩ (.slice Q (natL D.natAbs).length l)).heap[j]? = w.heap[j]? := fun j hj => by rw [Below.heap_setCell _ ⟨g, 7, none⟩ (.slice Q (natL D.natAbs).length l) j hj, Below.heap_setCell _ ⟨g, 6, none⟩ (.bool (decide (D < 0))) j hj, Below.heap_setCell _ ⟨g, 5, none⟩ (.slice P (natL N.natAbs).length k) j hj, Below.heap_setCell _ ⟨g, 4, none⟩ (.bool (decide (N < 0))) j hj]
  obtain ⟨h1, h2, h3, h4⟩ := m_.split
  exact ⟨⟨A0, c0, A1, c1, P, k, Q, l, A4, c4, A5, c5, A6, c6, A7, c7, ⟨key⟩, ⟨_, _, _, _, _, _, _, _, _, _, _, _, _, _, _, _, rfl, h1.other k_.blk hT far, f_.other k_.blk hT far, h3.other k_.blk hT far, h4.other k_.blk hT far⟩⟩, (((((Below.refl g w).setCell (p := ⟨g, 4, none⟩) (Nat.le_refl _) (.bool (decide (N < 0)))).setCell (p := ⟨g, 5, none⟩) (Nat.le_refl _) (.slice P (natL N.natAbs).length k)).setCell (p := ⟨g, 6, none⟩) (Nat.le_refl _) (.bool (decide (D < 0)))).setCell (p := ⟨g, 7, none⟩) (Nat.le_refl _) (.slice Q (natL D.natAbs).length l))⟩
theorem putC {w : World} {g : Nat} {T : TypeId} {n1 d1 n2 d2 n3 d3 n4 d4 N D : Int} {A0 A1 A2 A3 A4 A5 A6 A7 P Q : Option Addr} {c0 c1 c2 c3 c4 c5 c6 c7 k l : Nat} (k_ : Hex w g T (.bool (decide (n1 < 0))) (.slice A0 (natL n1.natAbs).length c0) (.bool (decide (d1 < 0))) (.slice A1 (natL d1.natAbs).length c1) (.bool (decide (n2 < 0))) (.slice A2 (natL n2.natAbs).length c2) (.bool (decide (d2 < 0))) (.slice A3 (natL d2.natAbs).length c3) (.bool (decide (n3 < 0))) (.slice A4 (natL n3.natAbs).length c4) (.bool (decide (d3 < 0))) (.slice A5 (natL d3.natAbs).length c5) (.bool (decide (n4 < 0))) (.slice A6 (natL n4.natAbs).length c6) (.bool (decide (d4 < 0))) (.slice A7 (natL d4.natAbs).length c7)) (m_ : MatIn w (.agg #[.bool (decide (n1 < 0)), .slice A0 (natL n1.natAbs).length c0, .bool (decide (d1 < 0)), .slice A1 (natL d1.natAbs).length c1, .bool (decide (n2 < 0)), .slice A2 (natL n2.natAbs).length c2, .bool (decide (d2 < 0)), .slice A3 (natL d2.natAbs).length c3, .bool (decide (n3 < 0)), .slice A4 (natL n3.natAbs).length c4, .bool (decide (d3 < 0)), .slice A5 (natL d3.natAbs).length c5, .bool (decide (n4 < 0)), .slice A6 (natL n4.natAbs).length c6, .bool (decide (d4 < 0)), .slice A7 (natL d4.natAbs).length c7]) n1 d1 n2 d2 n3 d3 n4 d4) (f_ : FracIn w 0 (.agg #[.bool (decide (N < 0)), .slice P (natL N.natAbs).length k, .bool (decide (D < 0)), .slice Q (natL D.natAbs).length l]) N D) (hT : 109 ≠ T) :
    MO ((((w.setCell ⟨g, 8, none⟩ (.bool (decide (N < 0)))).setCell ⟨g, 9, none⟩ (.slice P (natL N.natAbs).length k)).setCell ⟨g, 10, none⟩ (.bool (decide (D < 0)))).setCell ⟨g, 11, none⟩ (.slice Q (natL D.natAbs).length l)) g T n1 d1 n2 d2 N D n4 d4 ∧ Below g w ((((w.setCell ⟨g, 8, none⟩ (.bool (decide (N < 0)))).setCell ⟨g, 9, none⟩ (.slice P (natL N.natAbs).length k)).setCell ⟨g, 10, none⟩ (.bool (decide (D < 0)))).setCell ⟨g, 11, none⟩ (.slice Q (natL D.natAbs).length l)) := by
  have key := ((((k_.blk.set_ 8 (.bool (decide (N < 0)))).set_ 9 (.slice P (natL N.natAbs).length k)).set_ 10 (.bool (decide (D < 0)))).set_ 11 (.slice Q (natL D.natAbs).length l))
  have e9 : (((((#[.bool (decide (n1 < 0)), .slice A0 (natL n1.natAbs).length c0, .bool (decide (d1 < 0)), .slice A1 (natL d1.natAbs).length c1, .bool (decide (n2 < 0)), .slice A2 (natL n2.natAbs).length c2, .bool (decide (d2 < 0)), .slice A3 (natL d2.natAbs).length c3, .bool (decide (n3 < 0)), .slice A4 (natL n3.natAbs).length c4, .bool (decide (d3 < 0)), .slice A5 (natL d3.natAbs).length c5, .bool (decide (n4 < 0)), .slice A6 (natL n4.natAbs).length c6, .bool (decide (d4 < 0)), .slice A7 (natL d4.natAbs).length c7] : Array Value).setIfInBounds 8 (.bool (decide (N < 0)))).setIfInBounds 9 (.slice P (natL N.natAbs).length k)).setIfInBounds 10 (.bool (decide (D < 0)))).setIfInBounds 11 (.slice Q (natL D.natAbs).length l)) = #[.bool (decide (n1 < 0)), .slice A0 (natL n1.natAbs).length c0, .bool (decide (d1 < 0)), .slice A1 (natL d1.natAbs).length c1, .bool (decide (n2 < 0)), .slice A2 (natL n2.natAbs).length c2, .bool (decide (d2 < 0)), .slice A3 (natL d2.natAbs).length c3, .bool (decide (N < 0)), .slice P (natL N.natAbs).length k, .bool (decide (D < 0)), .slice Q (natL D.natAbs).length l, .bool (decide (n4 < 0)), .slice A6 (natL n4.natAbs).length c6, .bool (decide (d4 < 0)), .slice A7 (natL d4.natAbs).length c7] := by simp
  rw [e9] at key
  have far : ∀ j, j ≠ g → ((((w.setCell ⟨g, 8, none⟩ (.bool (decide (N < 0)))).setCell ⟨g, 9, none⟩ (.slice P (natL N.natAbs).length k)).setCell ⟨g, 10, none⟩ (.bool (decide (D < 0)))).setCell ⟨g, 11, none⟩ (.slice Q (natL D.natAbs).length l)).heap[j]? = w.heap[j]? := fun j hj => by rw [Below.heap_setCell _ ⟨g, 11, none⟩ (.slice Q (natL D.natAbs).length l) j hj, Below.heap_setCell _ ⟨g, 10, none⟩ (.bool (decide (D < 0))) j hj, Below.heap_setCell _ ⟨g, 9, none⟩ (.slice P (natL N.natAbs).length k) j hj, Below.heap_setCell _ ⟨g, 8, none⟩ (.bool (decide (N < 0))) j hj]
  obtain ⟨h1, h2, h3, h4⟩ := m_.split
  exact ⟨⟨A0, c0, A1, c1, A2, c2, A3, c3, P, k, Q, l, A6, c6, A7, c7, ⟨key⟩, ⟨_, _, _, _, _, _, _, _, _, _, _, _, _, _, _, _, rfl, h1.other k_.blk hT far, h2.other k_.blk hT far, f_.other k_.blk hT far, h4.other k_.blk hT far⟩⟩, (((((Below.refl g w).setCell (p := ⟨g, 8, none⟩) (Nat.le_refl _) (.bool (decide (N < 0)))).setCell (p := ⟨g, 9, none⟩) (Nat.le_refl _) (.slice P (natL N.natAbs).length k)).setCell (p := ⟨g, 10, none⟩) (Nat.le_refl _) (.bool (decide (D < 0)))).setCell (p := ⟨g, 11, none⟩) (Nat.le_refl _) (.slice Q (natL D.natAbs).length l))⟩

theorem of_space {k : Nat} {n d m f : Int} {P1 P2 P3 P4 : Option Addr} {e1 e2 e3 e4 : Nat} {n1 d1 n2 d2 n3 d3 n4 d4 N D : Int} (C1 : OpI1 48 n d N D) (w : World) (g b : Nat) (h_e : Nine w g 65 (.int .u8 k) (.bool (decide (n < 0))) (.slice P1 (natL n.natAbs).length e1) (.bool (decide (d < 0))) (.slice P2 (natL d.natAbs).length e2) (.bool (decide (m < 0))) (.slice P3 (natL m.natAbs).length e3) (.bool (decide (f < 0))) (.slice P4 (natL f.natAbs).length e4)) (g_p : FracAt w (.agg #[.bool (decide (n < 0)), .slice P1 (natL n.natAbs).length e1, .bool (decide (d < 0)), .slice P2 (natL d.natAbs).length e2]) n d) (_g_q : FracAt w (.agg #[.bool (decide (m < 0)), .slice P3 (natL m.natAbs).length e3, .bool (decide (f < 0)), .slice P4 (natL f.natAbs).length e4]) m f) (h_m : MO w b 38 n1 d1 n2 d2 n3 d3 n4 d4) :
    Calls Tryz.prog 80 #[.pointer (some ⟨g, 0, none⟩), .pointer (some ⟨b, 0, none⟩)] w fun e w' => e = .returned (.tuple #[]) ∧ MO w' b 38 n1 d1 N D n3 d3 n4 d4 ∧ Below b w w' := by
  obtain ⟨A0, c0, A1, c1, A2, c2, A3, c3, A4, c4, A5, c5, A6, c6, A7, c7, hx, hm⟩ := h_m.form
  go_enter Tryz.func80, Tryz.ntmps80
  obtain ⟨l_e, a0, a1, a2, a3, a4, a5, a6, a7, a8⟩ := h_e.facts
  go_wp2_with fail
  refine (C1 w _ g_p).mono ?_
  rintro e v0 ⟨u0, rfl, hI0, hb0⟩
  obtain ⟨P, k1, Q, k2, rfl, -⟩ := hI0.form
  have hB := hb0
  have hx9 := hx.below hB
  have hm9 := hm.below hB
  obtain ⟨l_r, r0, r1, r2, r3, r4, r5, r6, r7, r8, r9, r10, r11, r12, r13, r14, r15⟩ := hx9.facts
  obtain ⟨f0, f1, f2, f3, f4, f5, f6, f7, f8, f9, f10, f11, f12, f13, f14, f15⟩ := hx9.free
  have hP := putB hx9 hm9 hI0 (by decide)
  have hl := hx.blk.lt
  go_wp2_with fail
  exact bodyPost_end (v := .tuple #[]) (by simp [results, Tryz.results80, go_sem]) rfl ⟨rfl, hP.1, (hB.mono (by omega)).trans hP.2⟩

theorem of_lens {k : Nat} {n d m f : Int} {P1 P2 P3 P4 : Option Addr} {e1 e2 e3 e4 : Nat} {n1 d1 n2 d2 n3 d3 n4 d4 N D : Int} (C1 : OpI1 82 n d N D) (w : World) (g b : Nat) (h_e : Nine w g 65 (.int .u8 k) (.bool (decide (n < 0))) (.slice P1 (natL n.natAbs).length e1) (.bool (decide (d < 0))) (.slice P2 (natL d.natAbs).length e2) (.bool (decide (m < 0))) (.slice P3 (natL m.natAbs).length e3) (.bool (decide (f < 0))) (.slice P4 (natL f.natAbs).length e4)) (g_p : FracAt w (.agg #[.bool (decide (n < 0)), .slice P1 (natL n.natAbs).length e1, .bool (decide (d < 0)), .slice P2 (natL d.natAbs).length e2]) n d) (_g_q : FracAt w (.agg #[.bool (decide (m < 0)), .slice P3 (natL m.natAbs).length e3, .bool (decide (f < 0)), .slice P4 (natL f.natAbs).length e4]) m f) (h_m : MO w b 38 n1 d1 n2 d2 n3 d3 n4 d4) :
    Calls Tryz.prog 81 #[.pointer (some ⟨g, 0, none⟩), .pointer (some ⟨b, 0, none⟩)] w fun e w' => e = .returned (.tuple #[]) ∧ MO w' b 38 n1 d1 n2 d2 N D n4 d4 ∧ Below b w w' := by
  obtain ⟨A0, c0, A1, c1, A2, c2, A3, c3, A4, c4, A5, c5, A6, c6, A7, c7, hx, hm⟩ := h_m.form
  go_enter Tryz.func81, Tryz.ntmps81
  obtain ⟨l_e, a0, a1, a2, a3, a4, a5, a6, a7, a8⟩ := h_e.facts
  go_wp2_with fail
  refine (C1 w _ g_p).mono ?_
  rintro e v0 ⟨u0, rfl, hI0, hb0⟩
  obtain ⟨P, k1, Q, k2, rfl, -⟩ := hI0.form
  have hB := hb0
  have hx9 := hx.below hB
  have hm9 := hm.below hB
  obtain ⟨l_r, r0, r1, r2, r3, r4, r5, r6, r7, r8, r9, r10, r11, r12, r13, r14, r15⟩ := hx9.facts
  obtain ⟨f0, f1, f2, f3, f4, f5, f6, f7, f8, f9, f10, f11, f12, f13, f14, f15⟩ := hx9.free
  have hP := putC hx9 hm9 hI0 (by decide)
  have hl := hx.blk.lt
  go_wp2_with fail
  exact bodyPost_end (v := .tuple #[]) (by simp [results, Tryz.results81, go_sem]) rfl ⟨rfl, hP.1, (hB.mono (by omega)).trans hP.2⟩

theorem of_slab {k : Nat} {n d m f : Int} {P1 P2 P3 P4 : Option Addr} {e1 e2 e3 e4 : Nat} {n1 d1 n2 d2 n3 d3 n4 d4 N D : Int} (C1 : OpI 84 n d m f N D) (w : World) (g b : Nat) (h_e : Nine w g 65 (.int .u8 k) (.bool (decide (n < 0))) (.slice P1 (natL n.natAbs).length e1) (.bool (decide (d < 0))) (.slice P2 (natL d.natAbs).length e2) (.bool (decide (m < 0))) (.slice P3 (natL m.natAbs).length e3) (.bool (decide (f < 0))) (.slice P4 (natL f.natAbs).length e4)) (g_p : FracAt w (.agg #[.bool (decide (n < 0)), .slice P1 (natL n.natAbs).length e1, .bool (decide (d < 0)), .slice P2 (natL d.natAbs).length e2]) n d) (g_q : FracAt w (.agg #[.bool (decide (m < 0)), .slice P3 (natL m.natAbs).length e3, .bool (decide (f < 0)), .slice P4 (natL f.natAbs).length e4]) m f) (h_m : MO w b 38 n1 d1 n2 d2 n3 d3 n4 d4) :
    Calls Tryz.prog 83 #[.pointer (some ⟨g, 0, none⟩), .pointer (some ⟨b, 0, none⟩)] w fun e w' => e = .returned (.tuple #[]) ∧ MO w' b 38 n1 d1 N D n3 d3 n4 d4 ∧ Below b w w' := by
  obtain ⟨A0, c0, A1, c1, A2, c2, A3, c3, A4, c4, A5, c5, A6, c6, A7, c7, hx, hm⟩ := h_m.form
  go_enter Tryz.func83, Tryz.ntmps83
  obtain ⟨l_e, a0, a1, a2, a3, a4, a5, a6, a7, a8⟩ := h_e.facts
  go_wp2_with fail
  refine (C1 w _ _ g_p g_q).mono ?_
  rintro e v0 ⟨u0, rfl, hI0, hb0⟩
  obtain ⟨P, k1, Q, k2, rfl, -⟩ := hI0.form
  have hB := hb0
  have hx9 := hx.below hB
  have hm9 := hm.below hB
  obtain ⟨l_r, r0, r1, r2, r3, r4, r5, r6, r7, r8, r9, r10, r11, r12, r13, r14, r15⟩ := hx9.facts
  obtain ⟨f0, f1, f2, f3, f4, f5, f6, f7, f8, f9, f10, f11, f12, f13, f14, f15⟩ := hx9.free
  have hP := putB hx9 hm9 hI0 (by decide)
  have hl := hx.blk.lt
  go_wp2_with fail
  exact bodyPost_end (v := .tuple #[]) (by simp [results, Tryz.results83, go_sem]) rfl ⟨rfl, hP.1, (hB.mono (by omega)).trans hP.2⟩

theorem of_surface {k : Nat} {n d m f : Int} {P1 P2 P3 P4 : Option Addr} {e1 e2 e3 e4 : Nat} {n1 d1 n2 d2 n3 d3 n4 d4 N D T1 T2 : Int} (C1 : OpI 67 n d m f T1 T2) (C2 : OpI1 82 T1 T2 N D) (w : World) (g b : Nat) (h_e : Nine w g 65 (.int .u8 k) (.bool (decide (n < 0))) (.slice P1 (natL n.natAbs).length e1) (.bool (decide (d < 0))) (.slice P2 (natL d.natAbs).length e2) (.bool (decide (m < 0))) (.slice P3 (natL m.natAbs).length e3) (.bool (decide (f < 0))) (.slice P4 (natL f.natAbs).length e4)) (g_p : FracAt w (.agg #[.bool (decide (n < 0)), .slice P1 (natL n.natAbs).length e1, .bool (decide (d < 0)), .slice P2 (natL d.natAbs).length e2]) n d) (g_q : FracAt w (.agg #[.bool (decide (m < 0)), .slice P3 (natL m.natAbs).length e3, .bool (decide (f < 0)), .slice P4 (natL f.natAbs).length e4]) m f) (h_m : MO w b 38 n1 d1 n2 d2 n3 d3 n4 d4) :
    Calls Tryz.prog 85 #[.pointer (some ⟨g, 0, none⟩), .pointer (some ⟨b, 0, none⟩)] w fun e w' => e = .returned (.tuple #[]) ∧ MO w' b 38 n1 d1 n2 d2 N D n4 d4 ∧ Below b w w' := by
  obtain ⟨A0, c0, A1, c1, A2, c2, A3, c3, A4, c4, A5, c5, A6, c6, A7, c7, hx, hm⟩ := h_m.form
  go_enter Tryz.func85, Tryz.ntmps85
  obtain ⟨l_e, a0, a1, a2, a3, a4, a5, a6, a7, a8⟩ := h_e.facts
  go_wp2_with fail
  refine (C1 w _ _ g_p g_q).mono ?_
  rintro e v0 ⟨u0, rfl, hI0, hb0⟩
  obtain ⟨P, k1, Q, k2, rfl, -⟩ := hI0.form
  go_wp2_with fail
  refine (C2 v0 _ hI0.at_).mono ?_
  rintro e v1 ⟨u1, rfl, hI1, hb1⟩
  obtain ⟨P, k1, Q, k2, rfl, -⟩ := hI1.form
  have hB := (hb0.trans (hb1.mono hb0.size))
  have hx9 := hx.below hB
  have hm9 := hm.below hB
  obtain ⟨l_r, r0, r1, r2, r3, r4, r5, r6, r7, r8, r9, r10, r11, r12, r13, r14, r15⟩ := hx9.facts
  obtain ⟨f0, f1, f2, f3, f4, f5, f6, f7, f8, f9, f10, f11, f12, f13, f14, f15⟩ := hx9.free
  have hP := putC hx9 hm9 hI1 (by decide)
  have hl := hx.blk.lt
  go_wp2_with fail
  exact bodyPost_end (v := .tuple #[]) (by simp [results, Tryz.results85, go_sem]) rfl ⟨rfl, hP.1, (hB.mono (by omega)).trans hP.2⟩
/- row.One, row.Turned, row.Of. (Written by wip/top/genofall.py.) -/


theorem mone_w {o1 o2 z1 z2 : Int} (C1 : OpI0 43 o1 o2) (C2 : OpI0 93 z1 z2) (w : World)   :
    Calls Tryz.prog 62 #[] w (RetMatIn w o1 o2 z1 z2 z1 z2 o1 o2) := by
  have H1 := Hd C1
  have H2 := Hd C2
  clear C1 C2
  go_enter Tryz.func62, Tryz.ntmps62
  go_upto_region 1 with fail
  refine boxes1 (P := fun W => Code.wp _ _ _ _ W) fun W p0 b0 => ?_
  have PR := Hd (Hex.mk p0)
  have HB := Hd b0
  clear b0 p0
  go_wp2_with fail
  refine (H1.out W).mono ?_
  rintro e v0 ⟨u0, rfl, hI0, hb0⟩
  obtain ⟨A0, c0, A1, c1, rfl, -⟩ := hI0.form
  go_wp2_with fail
  refine (H2.out v0).mono ?_
  rintro e v1 ⟨u1, rfl, hI1, hb1⟩
  obtain ⟨A2, c2, A3, c3, rfl, -⟩ := hI1.form
  go_wp2_with fail
  refine (H2.out v1).mono ?_
  rintro e v2 ⟨u2, rfl, hI2, hb2⟩
  obtain ⟨A4, c4, A5, c5, rfl, -⟩ := hI2.form
  go_wp2_with fail
  refine (H1.out v2).mono ?_
  rintro e v3 ⟨u3, rfl, hI3, hb3⟩
  obtain ⟨A6, c6, A7, c7, rfl, -⟩ := hI3.form
  have hB1 := hb1.trans (hb2.mono hb1.size)
  have hB2 := hB1.trans (hb3.mono hB1.size)
  have hB := hb0.trans (hB2.mono hb0.size)
  have HM : MatIn v3 (.agg #[.bool (decide (o1 < 0)), .slice A0 (natL o1.natAbs).length c0, .bool (decide (o2 < 0)), .slice A1 (natL o2.natAbs).length c1, .bool (decide (z1 < 0)), .slice A2 (natL z1.natAbs).length c2, .bool (decide (z2 < 0)), .slice A3 (natL z2.natAbs).length c3, .bool (decide (z1 < 0)), .slice A4 (natL z1.natAbs).length c4, .bool (decide (z2 < 0)), .slice A5 (natL z2.natAbs).length c5, .bool (decide (o1 < 0)), .slice A6 (natL o1.natAbs).length c6, .bool (decide (o2 < 0)), .slice A7 (natL o2.natAbs).length c7]) o1 o2 z1 z2 z1 z2 o1 o2 := ⟨_, _, _, _, _, _, _, _, _, _, _, _, _, _, _, _, rfl, hI0.below hB2, hI1.below (hb2.trans (hb3.mono hb2.size)), hI2.below hb3, hI3⟩
  have pr := PR.out.below hB
  have hb9 := belowTo HB.out hB
  obtain ⟨l_r, r0, r1, r2, r3, r4, r5, r6, r7, r8, r9, r10, r11, r12, r13, r14, r15⟩ := pr.facts
  obtain ⟨f0, f1, f2, f3, f4, f5, f6, f7, f8, f9, f10, f11, f12, f13, f14, f15⟩ := pr.free
  have H9 := Hd (mstore HM pr hb9 (show w.heap.size ≤ w.heap.size by omega) (by decide))
  clear HM hb9 pr hB hB1 hB2 hb0 hb1 hb2 hb3 hI0 hI1 hI2 hI3
  go_wp2_with fail
  obtain ⟨_, k0, k1, k2, k3, k4, k5, k6, k7, k8, k9, k10, k11, k12, k13, k14, k15⟩ := H9.out.1.facts
  exact bodyPost_ret (by simp [results, Tryz.results62, go_sem, k0, k1, k2, k3, k4, k5, k6, k7, k8, k9, k10, k11, k12, k13, k14, k15]) rfl ⟨_, rfl, H9.out.2.2, H9.out.2.1⟩

theorem mturned_w {n1 d1 n2 d2 n3 d3 n4 d4 N1 D1 N2 D2 N3 D3 N4 D4 : Int} (C1 : OpI1 82 n1 d1 N1 D1) (C2 : OpI1 82 n2 d2 N2 D2) (C3 : OpI1 82 n3 d3 N3 D3) (C4 : OpI1 82 n4 d4 N4 D4) (w : World) (v_x : Value) (g_x : MatAt w v_x n1 d1 n2 d2 n3 d3 n4 d4)  :
    Calls Tryz.prog 87 #[v_x] w (RetMatIn w N1 D1 N2 D2 N3 D3 N4 D4) := by
  obtain ⟨Ax1, cx1, Ax2, cx2, Ax3, cx3, Ax4, cx4, Ax5, cx5, Ax6, cx6, Ax7, cx7, Ax8, cx8, rfl, -⟩ := g_x.form
  have H1 := Hd C1
  have H2 := Hd C2
  have H3 := Hd C3
  have H4 := Hd C4
  clear C1 C2 C3 C4
  have G_x := Hd g_x
  clear g_x
  go_enter Tryz.func87, Tryz.ntmps87
  go_upto_region 1 with fail
  refine boxes2 (P := fun W => Code.wp _ _ _ _ W) fun W p0 p1 b0 => ?_
  have P_x := Hd (Hex.mk p0)
  have PR := Hd (Hex.mk p1)
  have HB := Hd b0
  clear b0 p0 p1
  have hsz := PR.out.blk.lt
  go_wp2_with fail
  refine wp_region_free [.val (.pointer (some ⟨w.heap.size, 0, none⟩)) [], .val (.agg #[.bool (decide (n1 < 0)), .slice Ax1 (natL n1.natAbs).length cx1, .bool (decide (d1 < 0)), .slice Ax2 (natL d1.natAbs).length cx2]) [], .any false (fun u V => FracIn V 0 u N1 D1) [], .val (.pointer (some ⟨w.heap.size, 4, none⟩)) [], .val (.agg #[.bool (decide (n2 < 0)), .slice Ax3 (natL n2.natAbs).length cx3, .bool (decide (d2 < 0)), .slice Ax4 (natL d2.natAbs).length cx4]) [], .any false (fun u V => FracIn V 0 u N2 D2) [], .val (.pointer (some ⟨w.heap.size, 8, none⟩)) [], .val (.agg #[.bool (decide (n3 < 0)), .slice Ax5 (natL n3.natAbs).length cx5, .bool (decide (d3 < 0)), .slice Ax6 (natL d3.natAbs).length cx6]) [], .any false (fun u V => FracIn V 0 u N3 D3) [], .val (.pointer (some ⟨w.heap.size, 12, none⟩)) [], .val (.agg #[.bool (decide (n4 < 0)), .slice Ax7 (natL n4.natAbs).length cx7, .bool (decide (d4 < 0)), .slice Ax8 (natL d4.natAbs).length cx8]) [], .any false (fun u V => FracIn V 0 u N4 D4) [], .any false (fun u V => MatIn V u N1 D1 N2 D2 N3 D3 N4 D4) [2, 5, 8, 11], .old (w.heap.size + 1) 38 #[.bool false, .slice none 0 0, .bool false, .slice none 0 0, .bool false, .slice none 0 0, .bool false, .slice none 0 0, .bool false, .slice none 0 0, .bool false, .slice none 0 0, .bool false, .slice none 0 0, .bool false, .slice none 0 0] 0 16 12 []] (w.heap.size + 1) W [38] (fun _ _ => False) _ mixedOrders2 (by omega) (Below.refl _ _) (KeptV.refl _ _ _) rfl (by kernel_rfl) (by kernel_rfl) (by kernel_rfl) (by kernel_rfl) (by kernel_rfl) (by kernel_rfl) (by kernel_rfl) (by kernel_rfl) rfl (by simp [oldsF]) ?_ ?_ ?_ ?_
  · simp only [StableF, and_true]
    exact ⟨fun u V V' h k => h.kept k (by decide), fun u V V' h k => h.kept k (by decide), fun u V V' h k => h.kept k (by decide), fun u V V' h k => h.kept k (by decide), fun u V V' h k => h.kept k (by decide)⟩
  · simp only [OldsF, and_true]
    exact ⟨Nat.le_refl _, PR.out.blk.lt, PR.out.blk, by simp⟩
  · simp (maxSteps := 4000000) [StepsF, DepF, freeAct, fill, pairs]
    repeat' (first | apply And.intro | (intro (u : Value)) | (intro (u : Nat)))
    all_goals try exact ⟨_, _, _, rfl, rfl, rfl, rfl, matInfo⟩
    all_goals first
    | (intro V hV hK
       have qx : Hex V (w.heap.size) _ _ _ _ _ _ _ _ _ _ _ _ _ _ _ _ _ := ⟨P_x.out.blk.below hV (by omega)⟩
       obtain ⟨-, a_x0, a_x1, a_x2, a_x3, a_x4, a_x5, a_x6, a_x7, a_x8, a_x9, a_x10, a_x11, a_x12, a_x13, a_x14, a_x15⟩ := qx.facts
       have hvb := HB.out.trans (hV.mono (by omega))
       have hvs := hvb.size
       have g_x := Hd (G_x.out.below hvb)
       clear hV hK qx
       go_simp
       first
       | exact Below.refl _ _
       | ((with_reducible refine (H1.out V _ g_x.out.fa).mono ?_); rintro e w' ⟨v, rfl, hv, hb⟩; exact ⟨hv, hb⟩)
       | ((with_reducible refine (H2.out V _ g_x.out.fb).mono ?_); rintro e w' ⟨v, rfl, hv, hb⟩; exact ⟨hv, hb⟩)
       | ((with_reducible refine (H3.out V _ g_x.out.fc).mono ?_); rintro e w' ⟨v, rfl, hv, hb⟩; exact ⟨hv, hb⟩)
       | ((with_reducible refine (H4.out V _ g_x.out.fd).mono ?_); rintro e w' ⟨v, rfl, hv, hb⟩; exact ⟨hv, hb⟩))
    | (intro V hV hK h1 h2 h3 h4
       obtain ⟨A1, c1, B1, e1, rfl, -, -⟩ := h1.form
       obtain ⟨A2, c2, B2, e2, rfl, -, -⟩ := h2.form
       obtain ⟨A3, c3, B3, e3, rfl, -, -⟩ := h3.form
       obtain ⟨A4, c4, B4, e4, rfl, -, -⟩ := h4.form
       clear hV hK
       go_simp
       exact ⟨⟨_, _, _, _, _, _, _, _, _, _, _, _, _, _, _, _, rfl, h1, h2, h3, h4⟩, Below.refl _ _⟩)
    | exact fun _ _ _ (h : MatIn _ _ _ _ _ _ _ _ _ _) => h.cells
  · simp [EndF, FactsF, freeAct, fill, pairs]
    intro u1 u2 u3 u4 u5 V hV hK h1 h2 h3 h4 h5 bq _ _ _
    have HF := Hd h5
    obtain ⟨A60, c60, A61, c61, A62, c62, A63, c63, A64, c64, A65, c65, A66, c66, A67, c67, rfl, -⟩ := h5.form
    simp [setAll, Value.cells] at bq
    have k0 := bq.cell 0
    have k1 := bq.cell 1
    have k2 := bq.cell 2
    have k3 := bq.cell 3
    have k4 := bq.cell 4
    have k5 := bq.cell 5
    have k6 := bq.cell 6
    have k7 := bq.cell 7
    have k8 := bq.cell 8
    have k9 := bq.cell 9
    have k10 := bq.cell 10
    have k11 := bq.cell 11
    have k12 := bq.cell 12
    have k13 := bq.cell 13
    have k14 := bq.cell 14
    have k15 := bq.cell 15
    simp at k0 k1 k2 k3 k4 k5 k6 k7 k8 k9 k10 k11 k12 k13 k14 k15
    have HB9 := Hd (HB.out.trans (hV.mono (by omega)))
    clear h1 h2 h3 h4 h5 hV hK bq
    go_wp2_with fail
    exact bodyPost_ret (by simp [results, Tryz.results87, go_sem, k0, k1, k2, k3, k4, k5, k6, k7, k8, k9, k10, k11, k12, k13, k14, k15]) rfl ⟨_, rfl, HF.out, HB9.out⟩

theorem of_flip {n1 d1 n2 d2 n3 d3 n4 d4 N1 D1 N2 D2 N3 D3 N4 D4 : Int} (C1 : ∀ (V : World) (v : Value), MatAt V v n1 d1 n2 d2 n3 d3 n4 d4 → Calls Tryz.prog 87 #[v] V (RetMatIn V N1 D1 N2 D2 N3 D3 N4 D4)) (w : World) (b : Nat) (h_m : MO w b 38 n1 d1 n2 d2 n3 d3 n4 d4) :
    Calls Tryz.prog 86 #[.pointer (some ⟨b, 0, none⟩)] w fun e w' => e = .returned (.tuple #[]) ∧ MO w' b 38 N1 D1 N2 D2 N3 D3 N4 D4 ∧ Below b w w' := by
  obtain ⟨A0, c0, A1, c1, A2, c2, A3, c3, A4, c4, A5, c5, A6, c6, A7, c7, hx, hm⟩ := h_m.form
  go_enter Tryz.func86, Tryz.ntmps86
  obtain ⟨l_q, q0, q1, q2, q3, q4, q5, q6, q7, q8, q9, q10, q11, q12, q13, q14, q15⟩ := hx.facts
  obtain ⟨g0, g1, g2, g3, g4, g5, g6, g7, g8, g9, g10, g11, g12, g13, g14, g15⟩ := hx.free
  go_wp2_with fail
  refine (C1 w _ hm.at_).mono ?_
  rintro e v0 ⟨u0, rfl, hI0, hb0⟩
  obtain ⟨B0, e0, B1, e1, B2, e2, B3, e3, B4, e4, B5, e5, B6, e6, B7, e7, rfl, -⟩ := hI0.form
  have hx9 := hx.below hb0
  obtain ⟨l_r, r0, r1, r2, r3, r4, r5, r6, r7, r8, r9, r10, r11, r12, r13, r14, r15⟩ := hx9.facts
  obtain ⟨f0, f1, f2, f3, f4, f5, f6, f7, f8, f9, f10, f11, f12, f13, f14, f15⟩ := hx9.free
  have hP := mstore hI0 hx9 ((Below.refl b v0)) (Nat.le_refl _) (by decide)
  have hl := hx.blk.lt
  clear q0 q1 q2 q3 q4 q5 q6 q7 q8 q9 q10 q11 q12 q13 q14 q15 g0 g1 g2 g3 g4 g5 g6 g7 g8 g9 g10 g11 g12 g13 g14 g15
  go_wp2_with fail
  exact bodyPost_end (v := .tuple #[]) (by simp [results, Tryz.results86, go_sem]) rfl ⟨rfl, ⟨B0, e0, B1, e1, B2, e2, B3, e3, B4, e4, B5, e5, B6, e6, B7, e7, hP.1, hP.2.2⟩, (hb0.mono (by omega)).trans hP.2.1⟩
end Go.Proofs.YtmcnmoljliggfaaGreatDoor
