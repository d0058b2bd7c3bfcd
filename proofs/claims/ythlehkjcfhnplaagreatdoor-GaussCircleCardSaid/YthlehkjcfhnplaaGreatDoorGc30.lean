/- Several texts in one: Oct, RatOps, FClos, FRefMake. -/
import Derived.Test.YthlehkjcfhnplaaGreatDoorGc27
import Derived.Test.YthlehkjcfhnplaaGreatDoorGc28
import Derived.Test.YthlehkjcfhnplaaGreatDoorGc29
import Derived.Test.YthlehkjcfhnplaaGreatDoorGcHd
import Derived.Test.YthlehkjcfhnplaaGreatDoorGc21
import Derived.Test.YthlehkjcfhnplaaGreatDoorGc18
import Derived.Test.YthlehkjcfhnplaaGreatDoorGc14
set_option maxRecDepth 100000
set_option maxHeartbeats 8000000
/- Structs of two fractions: eight cells. What is known of them, wherever their limbs lie. -/
namespace Go.Proofs.YthlehkjcfhnplaaGreatDoor
open Go.RowKit

structure Oct (w : World) (g : Nat) (T : TypeId) (a b c d e f h i : Value) : Prop where
  blk : Blk w g T #[a, b, c, d, e, f, h, i]
section
variable {w w' : World} {g : Nat} {T : TypeId} {a b c d e f h i : Value}
theorem Oct.new (w : World) (T : TypeId) (a b c d e f h i : Value) : Oct (w.alloc (.cells #[a, b, c, d, e, f, h, i] T)) w.heap.size T a b c d e f h i := ⟨Blk.new w _ _⟩
theorem Oct.alloc (k : Oct w g T a b c d e f h i) (o : Obj) : Oct (w.alloc o) g T a b c d e f h i := ⟨k.blk.alloc o⟩
theorem Oct.below (k : Oct w g T a b c d e f h i) (hb : Below w.heap.size w w') : Oct w' g T a b c d e f h i := ⟨k.blk.below hb k.blk.lt⟩
theorem Oct.facts (k : Oct w g T a b c d e f h i) : g < w.heap.size ∧ w.cell? ⟨g, 0, none⟩ = some a ∧ w.cell? ⟨g, 1, none⟩ = some b ∧ w.cell? ⟨g, 2, none⟩ = some c ∧ w.cell? ⟨g, 3, none⟩ = some d ∧
    w.cell? ⟨g, 4, none⟩ = some e ∧ w.cell? ⟨g, 5, none⟩ = some f ∧ w.cell? ⟨g, 6, none⟩ = some h ∧ w.cell? ⟨g, 7, none⟩ = some i :=
  ⟨k.blk.lt, k.blk.cell 0, k.blk.cell 1, k.blk.cell 2, k.blk.cell 3, k.blk.cell 4, k.blk.cell 5, k.blk.cell 6, k.blk.cell 7⟩
theorem Oct.free (k : Oct w g T a b c d e f h i) : w.frozen? ⟨g, 0, none⟩ = false ∧ w.frozen? ⟨g, 1, none⟩ = false ∧ w.frozen? ⟨g, 2, none⟩ = false ∧ w.frozen? ⟨g, 3, none⟩ = false ∧
    w.frozen? ⟨g, 4, none⟩ = false ∧ w.frozen? ⟨g, 5, none⟩ = false ∧ w.frozen? ⟨g, 6, none⟩ = false ∧ w.frozen? ⟨g, 7, none⟩ = false :=
  ⟨k.blk.frozen 0, k.blk.frozen 1, k.blk.frozen 2, k.blk.frozen 3, k.blk.frozen 4, k.blk.frozen 5, k.blk.frozen 6, k.blk.frozen 7⟩
end
theorem set8_far (w : World) (g : Nat) (x0 x1 x2 x3 x4 x5 x6 x7 : Value) (k : Nat) (hk : k ≠ g) : ((((((((w.setCell ⟨g, 0, none⟩ x0).setCell ⟨g, 1, none⟩ x1).setCell ⟨g, 2, none⟩ x2).setCell ⟨g, 3, none⟩ x3).setCell ⟨g, 4, none⟩ x4).setCell ⟨g, 5, none⟩ x5).setCell ⟨g, 6, none⟩ x6).setCell ⟨g, 7, none⟩ x7).heap[k]? = w.heap[k]? := by
  rw [Below.heap_setCell _ ⟨g, 7, none⟩ x7 k hk, Below.heap_setCell _ ⟨g, 6, none⟩ x6 k hk, Below.heap_setCell _ ⟨g, 5, none⟩ x5 k hk, Below.heap_setCell _ ⟨g, 4, none⟩ x4 k hk, Below.heap_setCell _ ⟨g, 3, none⟩ x3 k hk, Below.heap_setCell _ ⟨g, 2, none⟩ x2 k hk, Below.heap_setCell _ ⟨g, 1, none⟩ x1 k hk, Below.heap_setCell _ ⟨g, 0, none⟩ x0 k hk]
theorem below8 {W w : World} {B g : Nat} (h : Below B W w) (hg : B ≤ g) (x0 x1 x2 x3 x4 x5 x6 x7 : Value) : Below B W ((((((((w.setCell ⟨g, 0, none⟩ x0).setCell ⟨g, 1, none⟩ x1).setCell ⟨g, 2, none⟩ x2).setCell ⟨g, 3, none⟩ x3).setCell ⟨g, 4, none⟩ x4).setCell ⟨g, 5, none⟩ x5).setCell ⟨g, 6, none⟩ x6).setCell ⟨g, 7, none⟩ x7) :=
  ((((((((h.setCell (p := ⟨g, 0, none⟩) hg x0).setCell (p := ⟨g, 1, none⟩) hg x1).setCell (p := ⟨g, 2, none⟩) hg x2).setCell (p := ⟨g, 3, none⟩) hg x3).setCell (p := ⟨g, 4, none⟩) hg x4).setCell (p := ⟨g, 5, none⟩) hg x5).setCell (p := ⟨g, 6, none⟩) hg x6).setCell (p := ⟨g, 7, none⟩) hg x7)
theorem Oct.store {w : World} {g : Nat} {T : TypeId} {a b c d e f h i : Value} (k : Oct w g T a b c d e f h i) (x0 x1 x2 x3 x4 x5 x6 x7 : Value) : Oct ((((((((w.setCell ⟨g, 0, none⟩ x0).setCell ⟨g, 1, none⟩ x1).setCell ⟨g, 2, none⟩ x2).setCell ⟨g, 3, none⟩ x3).setCell ⟨g, 4, none⟩ x4).setCell ⟨g, 5, none⟩ x5).setCell ⟨g, 6, none⟩ x6).setCell ⟨g, 7, none⟩ x7) g T x0 x1 x2 x3 x4 x5 x6 x7 := by
  have key := ((((((((k.blk.set_ 0 x0).set_ 1 x1).set_ 2 x2).set_ 3 x3).set_ 4 x4).set_ 5 x5).set_ 6 x6).set_ 7 x7)
  have e9 : ((((((((#[a, b, c, d, e, f, h, i].setIfInBounds 0 x0).setIfInBounds 1 x1).setIfInBounds 2 x2).setIfInBounds 3 x3).setIfInBounds 4 x4).setIfInBounds 5 x5).setIfInBounds 6 x6).setIfInBounds 7 x7) = #[x0, x1, x2, x3, x4, x5, x6, x7] := by simp
  rw [e9] at key
  exact ⟨key⟩
theorem IntOwn.other {w w' : World} {base g : Nat} {v : Value} {n : Int} {T : TypeId} {cs : Array Value} (hi : IntOwn w base v n) (hb : Blk w g T cs) (hT : 114 ≠ T) (hw : ∀ k, k ≠ g → w'.heap[k]? = w.heap[k]?) : IntOwn w' base v n := by
  obtain ⟨A', c', a1, a2, a3, a4⟩ := hi.form
  have hne := own_blk_ne a4 hb hT
  refine ⟨A', c', a1, a2, a3, a4.1, ?_⟩
  rcases a4.2 with p | ⟨g', cap, cur, p1, p2, p3, p4⟩
  · exact .inl p
  · refine .inr ⟨g', cap, cur, p1, p2, ?_, p4⟩
    have hg : g' ≠ g := fun e => by
      rw [p1] at hne
      exact hne (by simp [Value.ownBlock, e])
    rw [hw g' hg]
    exact p3
theorem FracOwn.other {w w' : World} {base g : Nat} {v : Value} {n d : Int} {T : TypeId} {cs : Array Value} (h : FracOwn w base v n d) (hb : Blk w g T cs) (hT : 114 ≠ T) (hw : ∀ k, k ≠ g → w'.heap[k]? = w.heap[k]?) : FracOwn w' base v n d := by
  obtain ⟨A, c, B, e, h1, h2, h3, h4⟩ := h.form
  exact ⟨A, c, B, e, h1, h2.other hb hT hw, h3.other hb hT hw, h4⟩
theorem FracIn.other {w w' : World} {base g : Nat} {v : Value} {n d : Int} {T : TypeId} {cs : Array Value} (h : FracIn w base v n d) (hb : Blk w g T cs) (hT : 114 ≠ T) (hw : ∀ k, k ≠ g → w'.heap[k]? = w.heap[k]?) : FracIn w' base v n d := by
  obtain ⟨A, c, B, e, h1, h2, h3⟩ := h.form
  exact ⟨A, c, B, e, h1, h2.other hb hT hw, h3.other hb hT hw⟩
theorem heap_same {w : World} {b : Nat} {T : TypeId} {v : Value} (hb : Blk w b T #[v]) (g : Nat) : (w.setCell ⟨b, 0, none⟩ v).heap[g]? = w.heap[g]? := by
  by_cases e : g = b
  · subst e
    have k : Blk (w.setCell ⟨g, 0, none⟩ v) g T #[v] := hb.set_ 0 v
    unfold Blk at hb k
    rw [hb, k]
  · exact Below.heap_setCell _ ⟨b, 0, none⟩ v g e
theorem Below.same {W w : World} {B b : Nat} {T : TypeId} {v : Value} (h : Below B W w) (hb : Blk w b T #[v]) : Below B W (w.setCell ⟨b, 0, none⟩ v) :=
  ⟨h.os, h.tape, h.output, by simpa using h.size, fun g hg => by rw [heap_same hb]; exact h.block g hg⟩
structure Cell1 (w : World) (b : Nat) (T : TypeId) (v : Value) : Prop where
  blk : Blk w b T #[v]
theorem Cell1.below {w w' : World} {b : Nat} {T : TypeId} {v : Value} (h : Cell1 w b T v) (hb : Below w.heap.size w w') : Cell1 w' b T v := ⟨h.blk.below hb h.blk.lt⟩
theorem boxes1 {w : World} {c1 : Array Value} {T1 : TypeId} {P : World → Prop} (h : ∀ W, Blk W w.heap.size T1 c1 → Below w.heap.size w W → P W) : P (w.alloc (.cells c1 T1)) := h _ (Blk.new w _ _) ((Below.refl _ _).alloc (Nat.le_refl _) _)
theorem boxes2 {w : World} {c1 c2 : Array Value} {T1 T2 : TypeId} {P : World → Prop} (h : ∀ W, Blk W w.heap.size T1 c1 → Blk W (w.heap.size + 1) T2 c2 → Below w.heap.size w W → P W) : P ((w.alloc (.cells c1 T1)).alloc (.cells c2 T2)) := by
  have k := Blk.new (w.alloc (.cells c1 T1)) T2 c2
  rw [World.size_alloc] at k
  exact h _ ((Blk.new w _ _).alloc _) k (((Below.refl _ _).alloc (Nat.le_refl _) _).alloc (by simp) _)
theorem boxes3 {w : World} {c1 c2 c3 : Array Value} {T1 T2 T3 : TypeId} {P : World → Prop} (h : ∀ W, Blk W w.heap.size T1 c1 → Blk W (w.heap.size + 1) T2 c2 → Blk W (w.heap.size + 1 + 1) T3 c3 → Below w.heap.size w W → P W) : P (((w.alloc (.cells c1 T1)).alloc (.cells c2 T2)).alloc (.cells c3 T3)) := by
  refine boxes2 (w := w) (c1 := c1) (T1 := T1) (c2 := c2) (T2 := T2) (P := fun V => V.heap.size = w.heap.size + 1 + 1 → P (V.alloc (.cells c3 T3))) (fun V h1 h2 h3 hz => ?_) (by simp)
  have k := Blk.new V T3 c3
  rw [hz] at k
  exact h _ (h1.alloc _) (h2.alloc _) k (h3.alloc (by omega) _)
def blkFrac (v : Value) (g : Nat) : Prop := ∃ b1 A k c b2 B l e, v = .agg #[.bool b1, .slice A k c, .bool b2, .slice B l e] ∧ ((Value.slice A k c).ownBlock = some g ∨ (Value.slice B l e).ownBlock = some g)
theorem blkFrac.at {b1 b2 : Bool} {A B : Option Addr} {k c l e g : Nat} (h : blkFrac (.agg #[.bool b1, .slice A k c, .bool b2, .slice B l e]) g) : (Value.slice A k c).ownBlock = some g ∨ (Value.slice B l e).ownBlock = some g := by
  obtain ⟨c1, A', k', c', c2, B', l', e', h1, h2⟩ := h
  simp only [Value.agg.injEq, Array.mk.injEq, List.cons.injEq, Value.slice.injEq, and_true] at h1
  obtain ⟨-, ⟨rfl, rfl, rfl⟩, -, rfl, rfl, rfl⟩ := h1
  exact h2
theorem blkFrac.of {b1 b2 : Bool} {A B : Option Addr} {k c l e g : Nat} (h : (Value.slice A k c).ownBlock = some g ∨ (Value.slice B l e).ownBlock = some g) : blkFrac (.agg #[.bool b1, .slice A k c, .bool b2, .slice B l e]) g := ⟨_, _, _, _, _, _, _, _, rfl, h⟩
theorem FracOwn.mine {w : World} {base : Nat} {v : Value} {n d : Int} (h : FracOwn w base v n d) : ∀ g, blkFrac v g → base ≤ g ∧ g < w.heap.size := by
  obtain ⟨A, c, B, e, rfl, h1, h2, -⟩ := h.form
  intro g hg
  rcases hg.at with h3 | h3
  · exact h1.mine g h3
  · exact h2.mine g h3
theorem FracOwn.in_ {w : World} {base : Nat} {v : Value} {n d : Int} (h : FracOwn w base v n d) : FracIn w 0 v n d := by
  obtain ⟨A, c, B, e, h1, h2, h3, -⟩ := h.form
  exact ⟨A, c, B, e, h1, h2.base (Nat.zero_le _), h3.base (Nat.zero_le _)⟩
structure GaussAt (w : World) (v : Value) (n d m f : Int) : Prop where
  form : ∃ A c B e A2 c2 B2 e2, v = .agg #[.bool (decide (n < 0)), .slice A (natL n.natAbs).length c, .bool (decide (d < 0)), .slice B (natL d.natAbs).length e, .bool (decide (m < 0)), .slice A2 (natL m.natAbs).length c2, .bool (decide (f < 0)), .slice B2 (natL f.natAbs).length e2] ∧
    Raw w A c (natL n.natAbs) ∧ Raw w B e (natL d.natAbs) ∧ Raw w A2 c2 (natL m.natAbs) ∧ Raw w B2 e2 (natL f.natAbs)
theorem GaussAt.below {w w' : World} {v : Value} {n d m f : Int} (h : GaussAt w v n d m f) (hb : Below w.heap.size w w') : GaussAt w' v n d m f := by
  obtain ⟨A, c, B, e, A2, c2, B2, e2, h1, h2, h3, h4, h5⟩ := h.form
  exact ⟨A, c, B, e, A2, c2, B2, e2, h1, h2.below hb, h3.below hb, h4.below hb, h5.below hb⟩
structure GaussIn (w : World) (v : Value) (n d m f : Int) : Prop where
  form : ∃ A c B e A2 c2 B2 e2, v = .agg #[.bool (decide (n < 0)), .slice A (natL n.natAbs).length c, .bool (decide (d < 0)), .slice B (natL d.natAbs).length e, .bool (decide (m < 0)), .slice A2 (natL m.natAbs).length c2, .bool (decide (f < 0)), .slice B2 (natL f.natAbs).length e2] ∧
    FracIn w 0 (.agg #[.bool (decide (n < 0)), .slice A (natL n.natAbs).length c, .bool (decide (d < 0)), .slice B (natL d.natAbs).length e]) n d ∧ FracIn w 0 (.agg #[.bool (decide (m < 0)), .slice A2 (natL m.natAbs).length c2, .bool (decide (f < 0)), .slice B2 (natL f.natAbs).length e2]) m f
theorem FracIn.raws {w : World} {base c e : Nat} {A B : Option Addr} {n d : Int} (h : FracIn w base (.agg #[.bool (decide (n < 0)), .slice A (natL n.natAbs).length c, .bool (decide (d < 0)), .slice B (natL d.natAbs).length e]) n d) : Raw w A c (natL n.natAbs) ∧ Raw w B e (natL d.natAbs) := by
  obtain ⟨A', c', B', e', h1, h2, h3⟩ := h.form
  simp only [Value.agg.injEq, Array.mk.injEq, List.cons.injEq, Value.slice.injEq, and_true, true_and] at h1
  obtain ⟨⟨rfl, rfl⟩, rfl, rfl⟩ := h1
  exact ⟨h2.rawAt, h3.rawAt⟩
theorem GaussIn.at_ {w : World} {v : Value} {n d m f : Int} (h : GaussIn w v n d m f) : GaussAt w v n d m f := by
  obtain ⟨A, c, B, e, A2, c2, B2, e2, h1, h2, h3⟩ := h.form
  exact ⟨A, c, B, e, A2, c2, B2, e2, h1, h2.raws.1, h2.raws.2, h3.raws.1, h3.raws.2⟩
theorem GaussIn.kept {B : Nat} {Ts : List TypeId} {w w' : World} {v : Value} {n d m f : Int} (h : GaussIn w v n d m f) (k : KeptV B Ts w w') (hT : 114 ∉ Ts) : GaussIn w' v n d m f := by
  obtain ⟨A, c, B, e, A2, c2, B2, e2, h1, h2, h3⟩ := h.form
  exact ⟨A, c, B, e, A2, c2, B2, e2, h1, h2.kept k hT, h3.kept k hT⟩
theorem GaussIn.below {w w' : World} {v : Value} {n d m f : Int} (h : GaussIn w v n d m f) (hb : Below w.heap.size w w') : GaussIn w' v n d m f := by
  obtain ⟨A, c, B, e, A2, c2, B2, e2, h1, h2, h3⟩ := h.form
  exact ⟨A, c, B, e, A2, c2, B2, e2, h1, h2.below hb, h3.below hb⟩
theorem GaussIn.cells {w : World} {v : Value} {n d m f : Int} (h : GaussIn w v n d m f) : CellsN v 8 := by
  obtain ⟨A, c, B, e, A2, c2, B2, e2, rfl, -⟩ := h.form
  exact ⟨rfl, by simp [Value.cells, Value.oneCell']⟩
theorem GaussIn.raws {w : World} {n d m f : Int} {A B C D : Option Addr} {c e k l : Nat} (h : GaussIn w (.agg #[.bool (decide (n < 0)), .slice A (natL n.natAbs).length c, .bool (decide (d < 0)), .slice B (natL d.natAbs).length e, .bool (decide (m < 0)), .slice C (natL m.natAbs).length k, .bool (decide (f < 0)), .slice D (natL f.natAbs).length l]) n d m f) :
    Raw w A c (natL n.natAbs) ∧ Raw w B e (natL d.natAbs) ∧ Raw w C k (natL m.natAbs) ∧ Raw w D l (natL f.natAbs) := by
  obtain ⟨A1, k1, A2, k2, A3, k3, A4, k4, h1, h2, h3⟩ := h.form
  simp only [Value.agg.injEq, Array.mk.injEq, List.cons.injEq, Value.slice.injEq, and_true, true_and] at h1
  obtain ⟨⟨rfl, rfl⟩, ⟨rfl, rfl⟩, ⟨rfl, rfl⟩, rfl, rfl⟩ := h1
  exact ⟨h2.raws.1, h2.raws.2, h3.raws.1, h3.raws.2⟩
structure GaussOwn (w : World) (base : Nat) (v : Value) (n d m f : Int) : Prop where
  form : ∃ A c B e A2 c2 B2 e2, v = .agg #[.bool (decide (n < 0)), .slice A (natL n.natAbs).length c, .bool (decide (d < 0)), .slice B (natL d.natAbs).length e, .bool (decide (m < 0)), .slice A2 (natL m.natAbs).length c2, .bool (decide (f < 0)), .slice B2 (natL f.natAbs).length e2] ∧
    FracOwn w base (.agg #[.bool (decide (n < 0)), .slice A (natL n.natAbs).length c, .bool (decide (d < 0)), .slice B (natL d.natAbs).length e]) n d ∧ FracOwn w base (.agg #[.bool (decide (m < 0)), .slice A2 (natL m.natAbs).length c2, .bool (decide (f < 0)), .slice B2 (natL f.natAbs).length e2]) m f ∧
    ∀ g, blkFrac (.agg #[.bool (decide (n < 0)), .slice A (natL n.natAbs).length c, .bool (decide (d < 0)), .slice B (natL d.natAbs).length e]) g → ¬ blkFrac (.agg #[.bool (decide (m < 0)), .slice A2 (natL m.natAbs).length c2, .bool (decide (f < 0)), .slice B2 (natL f.natAbs).length e2]) g
theorem GaussOwn.in_ {w : World} {base : Nat} {v : Value} {n d m f : Int} (h : GaussOwn w base v n d m f) : GaussIn w v n d m f := by
  obtain ⟨A, c, B, e, A2, c2, B2, e2, h1, h2, h3, -⟩ := h.form
  exact ⟨A, c, B, e, A2, c2, B2, e2, h1, h2.in_, h3.in_⟩
theorem GaussOwn.cells {w : World} {base : Nat} {v : Value} {n d m f : Int} (h : GaussOwn w base v n d m f) : CellsN v 8 := h.in_.cells
theorem GaussOwn.kept {B : Nat} {Ts : List TypeId} {w w' : World} {base : Nat} {v : Value} {n d m f : Int} (h : GaussOwn w base v n d m f) (k : KeptV B Ts w w') (hT : 114 ∉ Ts) : GaussOwn w' base v n d m f := by
  obtain ⟨A, c, B, e, A2, c2, B2, e2, h1, h2, h3, h4⟩ := h.form
  exact ⟨A, c, B, e, A2, c2, B2, e2, h1, h2.kept k hT, h3.kept k hT, h4⟩
theorem GaussOwn.below {w w' : World} {base : Nat} {v : Value} {n d m f : Int} (h : GaussOwn w base v n d m f) (hb : Below w.heap.size w w') : GaussOwn w' base v n d m f := by
  obtain ⟨A, c, B, e, A2, c2, B2, e2, h1, h2, h3, h4⟩ := h.form
  exact ⟨A, c, B, e, A2, c2, B2, e2, h1, h2.below hb, h3.below hb, h4⟩
theorem GaussOwn.base {w : World} {b b' : Nat} {v : Value} {n d m f : Int} (h : GaussOwn w b v n d m f) (hb : b' ≤ b) : GaussOwn w b' v n d m f := by
  obtain ⟨A, c, B, e, A2, c2, B2, e2, h1, h2, h3, h4⟩ := h.form
  exact ⟨A, c, B, e, A2, c2, B2, e2, h1, h2.base hb, h3.base hb, h4⟩
theorem GaussOwn.nought (w : World) (base : Nat) : GaussOwn w base (.agg #[.bool false, .slice none 0 0, .bool false, .slice none 0 0, .bool false, .slice none 0 0, .bool false, .slice none 0 0]) 0 0 0 0 :=
  ⟨none, 0, none, 0, none, 0, none, 0, rfl, FracOwn.nought _ _, FracOwn.nought _ _, fun g hg => by rcases hg.at with h | h <;> cases h⟩
theorem GaussOwn.oct {w : World} {base g : Nat} {v : Value} {n d m f : Int} {T : TypeId} {a b c e h i j k : Value} (q : GaussOwn w base v n d m f) (o : Oct w g T a b c e h i j k) (hT : 114 ≠ T) (x0 x1 x2 x3 x4 x5 x6 x7 : Value) : GaussOwn ((((((((w.setCell ⟨g, 0, none⟩ x0).setCell ⟨g, 1, none⟩ x1).setCell ⟨g, 2, none⟩ x2).setCell ⟨g, 3, none⟩ x3).setCell ⟨g, 4, none⟩ x4).setCell ⟨g, 5, none⟩ x5).setCell ⟨g, 6, none⟩ x6).setCell ⟨g, 7, none⟩ x7) base v n d m f := by
  obtain ⟨A, c, B, e, A2, c2, B2, e2, h1, h2, h3, h4⟩ := q.form
  exact ⟨A, c, B, e, A2, c2, B2, e2, h1, h2.other o.blk hT (set8_far w g x0 x1 x2 x3 x4 x5 x6 x7), h3.other o.blk hT (set8_far w g x0 x1 x2 x3 x4 x5 x6 x7), h4⟩
theorem GaussIn.oct {w : World} {g : Nat} {v : Value} {n d m f : Int} {T : TypeId} {a b c e h i j k : Value} (q : GaussIn w v n d m f) (o : Oct w g T a b c e h i j k) (hT : 114 ≠ T) (x0 x1 x2 x3 x4 x5 x6 x7 : Value) : GaussIn ((((((((w.setCell ⟨g, 0, none⟩ x0).setCell ⟨g, 1, none⟩ x1).setCell ⟨g, 2, none⟩ x2).setCell ⟨g, 3, none⟩ x3).setCell ⟨g, 4, none⟩ x4).setCell ⟨g, 5, none⟩ x5).setCell ⟨g, 6, none⟩ x6).setCell ⟨g, 7, none⟩ x7) v n d m f := by
  obtain ⟨A, c, B, e, A2, c2, B2, e2, h1, h2, h3⟩ := q.form
  exact ⟨A, c, B, e, A2, c2, B2, e2, h1, h2.other o.blk hT (set8_far w g x0 x1 x2 x3 x4 x5 x6 x7), h3.other o.blk hT (set8_far w g x0 x1 x2 x3 x4 x5 x6 x7)⟩
def RetGaussOwn (base : Nat) (w : World) (n d m f : Int) (e : Ending) (w' : World) : Prop := ∃ v, e = .returned v ∧ GaussOwn w' base v n d m f ∧ Below w.heap.size w w'
def RetGaussOwn2 (base : Nat) (w : World) (n d m f k : Int) (e : Ending) (w' : World) : Prop := ∃ v, e = .returned (.tuple #[v, .int .i64 k]) ∧ GaussOwn w' base v n d m f ∧ Below w.heap.size w w'
def RetGaussIn (w : World) (n d m f : Int) (e : Ending) (w' : World) : Prop := ∃ v, e = .returned v ∧ GaussIn w' v n d m f ∧ Below w.heap.size w w'
def RetGaussIn2 (w : World) (n d m f k : Int) (e : Ending) (w' : World) : Prop := ∃ v, e = .returned (.tuple #[v, .int .i64 k]) ∧ GaussIn w' v n d m f ∧ Below w.heap.size w w'
structure FracRaw (w : World) (v : Value) (n1 n2 : Bool) (xs ys : List Nat) : Prop where
  form : ∃ A c B e, v = .agg #[.bool n1, .slice A xs.length c, .bool n2, .slice B ys.length e] ∧ Raw w A c xs ∧ Raw w B e ys
structure GaussRaw (w : World) (v : Value) (n1 n2 n3 n4 : Bool) (xs ys us vs : List Nat) : Prop where
  form : ∃ A c B e A2 c2 B2 e2, v = .agg #[.bool n1, .slice A xs.length c, .bool n2, .slice B ys.length e, .bool n3, .slice A2 us.length c2, .bool n4, .slice B2 vs.length e2] ∧ Raw w A c xs ∧ Raw w B e ys ∧ Raw w A2 c2 us ∧ Raw w B2 e2 vs
theorem GaussAt.raw {w : World} {v : Value} {n d m f : Int} (h : GaussAt w v n d m f) : GaussRaw w v (decide (n < 0)) (decide (d < 0)) (decide (m < 0)) (decide (f < 0)) (natL n.natAbs) (natL d.natAbs) (natL m.natAbs) (natL f.natAbs) := ⟨h.form⟩
theorem FracAt.raw {w : World} {v : Value} {n d : Int} (h : FracAt w v n d) : FracRaw w v (decide (n < 0)) (decide (d < 0)) (natL n.natAbs) (natL d.natAbs) := ⟨h.form⟩
section
variable {w w' : World} {c e k l : Nat} {n d m f : Int} {A B C D : Option Addr}
theorem GaussAt.raws (h : GaussAt w (.agg #[.bool (decide (n < 0)), .slice A (natL n.natAbs).length c, .bool (decide (d < 0)), .slice B (natL d.natAbs).length e, .bool (decide (m < 0)), .slice C (natL m.natAbs).length k, .bool (decide (f < 0)), .slice D (natL f.natAbs).length l]) n d m f) : Raw w A c (natL n.natAbs) ∧ Raw w B e (natL d.natAbs) ∧ Raw w C k (natL m.natAbs) ∧ Raw w D l (natL f.natAbs) := by
  obtain ⟨A1, k1, A2, k2, A3, k3, A4, k4, h1, h2, h3, h4, h5⟩ := h.form
  simp only [Value.agg.injEq, Array.mk.injEq, List.cons.injEq, Value.slice.injEq, and_true, true_and] at h1
  obtain ⟨⟨rfl, rfl⟩, ⟨rfl, rfl⟩, ⟨rfl, rfl⟩, rfl, rfl⟩ := h1
  exact ⟨h2, h3, h4, h5⟩
theorem GaussAt.re (h : GaussAt w (.agg #[.bool (decide (n < 0)), .slice A (natL n.natAbs).length c, .bool (decide (d < 0)), .slice B (natL d.natAbs).length e, .bool (decide (m < 0)), .slice C (natL m.natAbs).length k, .bool (decide (f < 0)), .slice D (natL f.natAbs).length l]) n d m f) : FracAt w (.agg #[.bool (decide (n < 0)), .slice A (natL n.natAbs).length c, .bool (decide (d < 0)), .slice B (natL d.natAbs).length e]) n d := ⟨_, _, _, _, rfl, h.raws.1, h.raws.2.1⟩
theorem GaussAt.im (h : GaussAt w (.agg #[.bool (decide (n < 0)), .slice A (natL n.natAbs).length c, .bool (decide (d < 0)), .slice B (natL d.natAbs).length e, .bool (decide (m < 0)), .slice C (natL m.natAbs).length k, .bool (decide (f < 0)), .slice D (natL f.natAbs).length l]) n d m f) : FracAt w (.agg #[.bool (decide (m < 0)), .slice C (natL m.natAbs).length k, .bool (decide (f < 0)), .slice D (natL f.natAbs).length l]) m f := ⟨_, _, _, _, rfl, h.raws.2.2.1, h.raws.2.2.2⟩
theorem FracAt.raws (h : FracAt w (.agg #[.bool (decide (n < 0)), .slice A (natL n.natAbs).length c, .bool (decide (d < 0)), .slice B (natL d.natAbs).length e]) n d) : Raw w A c (natL n.natAbs) ∧ Raw w B e (natL d.natAbs) := by
  obtain ⟨A', c', B', e', h1, h2, h3⟩ := h.form
  simp only [Value.agg.injEq, Array.mk.injEq, List.cons.injEq, Value.slice.injEq, and_true, true_and] at h1
  obtain ⟨⟨rfl, rfl⟩, rfl, rfl⟩ := h1
  exact ⟨h2, h3⟩
end
section
variable {w w' : World} {v : Value} {n1 n2 n3 n4 : Bool} {xs ys us vs : List Nat} {c e k l : Nat} {A B C D : Option Addr}
theorem FracRaw.below (h : FracRaw w v n1 n2 xs ys) (hb : Below w.heap.size w w') : FracRaw w' v n1 n2 xs ys := by
  obtain ⟨A', c', B', e', h1, h2, h3⟩ := h.form
  exact ⟨A', c', B', e', h1, h2.below hb, h3.below hb⟩
theorem GaussRaw.below (h : GaussRaw w v n1 n2 n3 n4 xs ys us vs) (hb : Below w.heap.size w w') : GaussRaw w' v n1 n2 n3 n4 xs ys us vs := by
  obtain ⟨A1, k1, A2, k2, A3, k3, A4, k4, h1, h2, h3, h4, h5⟩ := h.form
  exact ⟨A1, k1, A2, k2, A3, k3, A4, k4, h1, h2.below hb, h3.below hb, h4.below hb, h5.below hb⟩
theorem FracRaw.raws (h : FracRaw w (.agg #[.bool n1, .slice A xs.length c, .bool n2, .slice B ys.length e]) n1 n2 xs ys) : Raw w A c xs ∧ Raw w B e ys := by
  obtain ⟨A', c', B', e', h1, h2, h3⟩ := h.form
  simp only [Value.agg.injEq, Array.mk.injEq, List.cons.injEq, Value.slice.injEq, and_true, true_and] at h1
  obtain ⟨⟨rfl, rfl⟩, rfl, rfl⟩ := h1
  exact ⟨h2, h3⟩
theorem GaussRaw.raws (h : GaussRaw w (.agg #[.bool n1, .slice A xs.length c, .bool n2, .slice B ys.length e, .bool n3, .slice C us.length k, .bool n4, .slice D vs.length l]) n1 n2 n3 n4 xs ys us vs) : Raw w A c xs ∧ Raw w B e ys ∧ Raw w C k us ∧ Raw w D l vs := by
  obtain ⟨A1, k1, A2, k2, A3, k3, A4, k4, h1, h2, h3, h4, h5⟩ := h.form
  simp only [Value.agg.injEq, Array.mk.injEq, List.cons.injEq, Value.slice.injEq, and_true, true_and] at h1
  obtain ⟨⟨rfl, rfl⟩, ⟨rfl, rfl⟩, ⟨rfl, rfl⟩, rfl, rfl⟩ := h1
  exact ⟨h2, h3, h4, h5⟩
theorem GaussRaw.re (h : GaussRaw w (.agg #[.bool n1, .slice A xs.length c, .bool n2, .slice B ys.length e, .bool n3, .slice C us.length k, .bool n4, .slice D vs.length l]) n1 n2 n3 n4 xs ys us vs) : FracRaw w (.agg #[.bool n1, .slice A xs.length c, .bool n2, .slice B ys.length e]) n1 n2 xs ys := ⟨_, _, _, _, rfl, h.raws.1, h.raws.2.1⟩
theorem GaussRaw.im (h : GaussRaw w (.agg #[.bool n1, .slice A xs.length c, .bool n2, .slice B ys.length e, .bool n3, .slice C us.length k, .bool n4, .slice D vs.length l]) n1 n2 n3 n4 xs ys us vs) : FracRaw w (.agg #[.bool n3, .slice C us.length k, .bool n4, .slice D vs.length l]) n3 n4 us vs := ⟨_, _, _, _, rfl, h.raws.2.2.1, h.raws.2.2.2⟩
end
structure GV (w : World) (g : Nat) (T : TypeId) (n d m f : Int) (A : Option Addr) (c : Nat) (B : Option Addr) (e : Nat) (C : Option Addr) (k : Nat) (D : Option Addr) (l : Nat) : Prop where
  oct : Oct w g T (.bool (decide (n < 0))) (.slice A (natL n.natAbs).length c) (.bool (decide (d < 0))) (.slice B (natL d.natAbs).length e) (.bool (decide (m < 0))) (.slice C (natL m.natAbs).length k) (.bool (decide (f < 0))) (.slice D (natL f.natAbs).length l)
  at_ : GaussAt w (.agg #[.bool (decide (n < 0)), .slice A (natL n.natAbs).length c, .bool (decide (d < 0)), .slice B (natL d.natAbs).length e, .bool (decide (m < 0)), .slice C (natL m.natAbs).length k, .bool (decide (f < 0)), .slice D (natL f.natAbs).length l]) n d m f
section
variable {w w' : World} {g c e k l : Nat} {T : TypeId} {n d m f : Int} {A B C D : Option Addr}
theorem GV.below (h : GV w g T n d m f A c B e C k D l) (hb : Below w.heap.size w w') : GV w' g T n d m f A c B e C k D l := ⟨h.oct.below hb, h.at_.below hb⟩
theorem GV.new (T : TypeId) (h : GaussAt w (.agg #[.bool (decide (n < 0)), .slice A (natL n.natAbs).length c, .bool (decide (d < 0)), .slice B (natL d.natAbs).length e, .bool (decide (m < 0)), .slice C (natL m.natAbs).length k, .bool (decide (f < 0)), .slice D (natL f.natAbs).length l]) n d m f) : GV (w.alloc (.cells #[.bool (decide (n < 0)), .slice A (natL n.natAbs).length c, .bool (decide (d < 0)), .slice B (natL d.natAbs).length e, .bool (decide (m < 0)), .slice C (natL m.natAbs).length k, .bool (decide (f < 0)), .slice D (natL f.natAbs).length l] T)) w.heap.size T n d m f A c B e C k D l := ⟨Oct.new w T _ _ _ _ _ _ _ _, h.below ((Below.refl _ _).alloc (Nat.le_refl _) _)⟩
theorem GV.re (h : GV w g T n d m f A c B e C k D l) : FracAt w (.agg #[.bool (decide (n < 0)), .slice A (natL n.natAbs).length c, .bool (decide (d < 0)), .slice B (natL d.natAbs).length e]) n d := h.at_.re
theorem GV.im (h : GV w g T n d m f A c B e C k D l) : FracAt w (.agg #[.bool (decide (m < 0)), .slice C (natL m.natAbs).length k, .bool (decide (f < 0)), .slice D (natL f.natAbs).length l]) m f := h.at_.im
end
structure TupG (V : World) (base : Nat) (u : Value) (n d m f k : Int) : Prop where
  form : ∃ v, u = .tuple #[v, .int .i64 k] ∧ GaussOwn V base v n d m f
theorem TupG.kept {B : Nat} {Ts : List TypeId} {w w' : World} {base : Nat} {u : Value} {n d m f k : Int} (h : TupG w base u n d m f k) (hk : KeptV B Ts w w') (hT : 114 ∉ Ts) : TupG w' base u n d m f k := by
  obtain ⟨v, h1, h2⟩ := h.form
  exact ⟨v, h1, h2.kept hk hT⟩
structure TupGI (V : World) (u : Value) (n d m f k : Int) : Prop where
  form : ∃ v, u = .tuple #[v, .int .i64 k] ∧ GaussIn V v n d m f
theorem TupGI.kept {B : Nat} {Ts : List TypeId} {w w' : World} {u : Value} {n d m f k : Int} (h : TupGI w u n d m f k) (hk : KeptV B Ts w w') (hT : 114 ∉ Ts) : TupGI w' u n d m f k := by
  obtain ⟨v, h1, h2⟩ := h.form
  exact ⟨v, h1, h2.kept hk hT⟩
structure TupR (V : World) (base : Nat) (u : Value) (n d k : Int) : Prop where
  form : ∃ v, u = .tuple #[v, .int .i64 k] ∧ FracOwn V base v n d
theorem TupR.kept {B : Nat} {Ts : List TypeId} {w w' : World} {base : Nat} {u : Value} {n d k : Int} (h : TupR w base u n d k) (hk : KeptV B Ts w w') (hT : 114 ∉ Ts) : TupR w' base u n d k := by
  obtain ⟨v, h1, h2⟩ := h.form
  exact ⟨v, h1, h2.kept hk hT⟩
structure TupRI (V : World) (u : Value) (n d k : Int) : Prop where
  form : ∃ v, u = .tuple #[v, .int .i64 k] ∧ FracIn V 0 v n d
theorem TupRI.kept {B : Nat} {Ts : List TypeId} {w w' : World} {u : Value} {n d k : Int} (h : TupRI w u n d k) (hk : KeptV B Ts w w') (hT : 114 ∉ Ts) : TupRI w' u n d k := by
  obtain ⟨v, h1, h2⟩ := h.form
  exact ⟨v, h1, h2.kept hk hT⟩
abbrev OpR (F : FuncId) (n d m f N D : Int) : Prop := ∀ (V : World) (v1 v2 : Value), FracAt V v1 n d → FracAt V v2 m f → Calls Tryz.prog F #[v1, v2] V (RetFracOwn V.heap.size V N D)
abbrev OpI (F : FuncId) (n d m f N D : Int) : Prop := ∀ (V : World) (v1 v2 : Value), FracAt V v1 n d → FracAt V v2 m f → Calls Tryz.prog F #[v1, v2] V (RetFracIn V N D)
abbrev OpR1 (F : FuncId) (n d N D : Int) : Prop := ∀ (V : World) (v1 : Value), FracAt V v1 n d → Calls Tryz.prog F #[v1] V (RetFracOwn V.heap.size V N D)
abbrev OpI1 (F : FuncId) (n d N D : Int) : Prop := ∀ (V : World) (v1 : Value), FracAt V v1 n d → Calls Tryz.prog F #[v1] V (RetFracIn V N D)
abbrev OpR0 (F : FuncId) (N D : Int) : Prop := ∀ (V : World), Calls Tryz.prog F #[] V (RetFracOwn V.heap.size V N D)
abbrev OpI0 (F : FuncId) (N D : Int) : Prop := ∀ (V : World), Calls Tryz.prog F #[] V (RetFracIn V N D)
abbrev SgnF (F : FuncId) (n d s : Int) : Prop := ∀ (V : World) (v1 : Value), FracAt V v1 n d → Calls Tryz.prog F #[v1] V fun e w' => e = .returned (.int .i64 s) ∧ Below V.heap.size V w'
abbrev OpGF (F : FuncId) (n d m f p q N D M E : Int) : Prop := ∀ (V : World) (v1 v2 : Value), GaussAt V v1 n d m f → FracAt V v2 p q → Calls Tryz.prog F #[v1, v2] V (RetGaussOwn V.heap.size V N D M E)
abbrev OpG1 (F : FuncId) (n d m f N D M E : Int) : Prop := ∀ (V : World) (v1 : Value), GaussAt V v1 n d m f → Calls Tryz.prog F #[v1] V (RetGaussOwn V.heap.size V N D M E)
abbrev OpGI1 (F : FuncId) (n d m f N D M E : Int) : Prop := ∀ (V : World) (v1 : Value), GaussAt V v1 n d m f → Calls Tryz.prog F #[v1] V (RetGaussIn V N D M E)
abbrev OpN (F : FuncId) (n d m f N D : Int) : Prop := ∀ (V : World) (v1 : Value), GaussAt V v1 n d m f → Calls Tryz.prog F #[v1] V (RetFracOwn V.heap.size V N D)
abbrev OpNI (F : FuncId) (n d m f N D : Int) : Prop := ∀ (V : World) (v1 : Value), GaussAt V v1 n d m f → Calls Tryz.prog F #[v1] V (RetFracIn V N D)
abbrev OpG (F : FuncId) (n d m f p q r s N D M E : Int) : Prop := ∀ (V : World) (v1 v2 : Value), GaussAt V v1 n d m f → GaussAt V v2 p q r s → Calls Tryz.prog F #[v1, v2] V (RetGaussOwn V.heap.size V N D M E)
abbrev OpGI (F : FuncId) (n d m f p q r s N D M E : Int) : Prop := ∀ (V : World) (v1 v2 : Value), GaussAt V v1 n d m f → GaussAt V v2 p q r s → Calls Tryz.prog F #[v1, v2] V (RetGaussIn V N D M E)
/- The operations of package ratio and of the references of chapter 02, as operations of rational numbers; their sizes. (Written by wip/gauss/genratops.py.) -/

structure Sz (q : Rat) (k : Nat) : Prop where
  num : lz q.num ≤ k
  den : lz (q.den : Int) ≤ k
theorem Sz.mono {q : Rat} {k l : Nat} (h : Sz q k) (hl : k ≤ l) : Sz q l := ⟨Nat.le_trans h.num hl, Nat.le_trans h.den hl⟩
theorem Sz.lz {q : Rat} {k : Nat} {n d : Int} (h : Sz q k) (i : Is q n d) : Go.Proofs.YthlehkjcfhnplaaGreatDoor.lz n ≤ k ∧ Go.Proofs.YthlehkjcfhnplaaGreatDoor.lz d ≤ k := by rw [← i.num, ← i.den]; exact ⟨h.num, h.den⟩
theorem Is.sz {q : Rat} {n d : Int} {k : Nat} (i : Is q n d) (h1 : lz n ≤ k) (h2 : lz d ≤ k) : Sz q k := ⟨by rw [i.num]; exact h1, by rw [i.den]; exact h2⟩
theorem Fine.is_ {n d : Int} (f : Fine n d) : Is (Rat.divInt n d) n d ∧ Sz (Rat.divInt n d) 2048 := ⟨fine_is f, (fine_is f).sz f.num f.den⟩
theorem lz_addN (n d m f : Int) : lz (addN n d m f) ≤ max (lz n + lz f) (lz m + lz d) + 1 ∧ lz (addD n d m f) ≤ lz d + lz f := by
  have h1 := lowN_lz (n * f + m * d) (d * f)
  have h2 := lowD_lz (n * f + m * d) (d * f)
  have h3 := lz_add (n * f) (m * d)
  have h4 := lz_mul n f
  have h5 := lz_mul m d
  have h6 := lz_mul d f
  unfold addN addD
  omega
theorem lz_subN (n d m f : Int) : lz (subN n d m f) ≤ max (lz n + lz f) (lz m + lz d) + 1 ∧ lz (subD n d m f) ≤ lz d + lz f := by
  have h1 := lowN_lz (n * f - m * d) (d * f)
  have h2 := lowD_lz (n * f - m * d) (d * f)
  have h3 := lz_sub (n * f) (m * d)
  have h4 := lz_mul n f
  have h5 := lz_mul m d
  have h6 := lz_mul d f
  unfold subN subD
  omega
theorem lz_mulN (n d m f : Int) : lz (mulN n d m f) ≤ lz n + lz m ∧ lz (mulD n d m f) ≤ lz d + lz f := by
  have h1 := lowN_lz (n * m) (d * f)
  have h2 := lowD_lz (n * m) (d * f)
  have h4 := lz_mul n m
  have h6 := lz_mul d f
  unfold mulN mulD
  omega
theorem lz_quoN (n d m f : Int) : lz (quoN n d m f) ≤ lz n + lz f ∧ lz (quoD n d m f) ≤ lz d + lz m := by
  have h1 := lowN_lz (n * f) (d * m)
  have h2 := lowD_lz (n * f) (d * m)
  have h4 := lz_mul n f
  have h6 := lz_mul d m
  unfold quoN quoD
  omega
section
variable {a b : Rat} {k l : Nat}
theorem sz_add (h : Sz a k) (g : Sz b l) : Sz (a + b) (k + l + 1) := by
  have i := is_add (Is.of a) (Is.of b)
  have b1 := lz_addN a.num a.den b.num b.den
  have := h.num
  have := h.den
  have := g.num
  have := g.den
  exact i.sz (by omega) (by omega)
theorem sz_sub (h : Sz a k) (g : Sz b l) : Sz (a - b) (k + l + 1) := by
  have i := is_sub (Is.of a) (Is.of b)
  have b1 := lz_subN a.num a.den b.num b.den
  have := h.num
  have := h.den
  have := g.num
  have := g.den
  exact i.sz (by omega) (by omega)
theorem sz_mul (h : Sz a k) (g : Sz b l) : Sz (a * b) (k + l) := by
  have i := is_mul (Is.of a) (Is.of b)
  have b1 := lz_mulN a.num a.den b.num b.den
  have := h.num
  have := h.den
  have := g.num
  have := g.den
  exact i.sz (by omega) (by omega)
theorem sz_quo (h : Sz a k) (g : Sz b l) (hb : b ≠ 0) : Sz (a / b) (k + l) := by
  have i := is_quo (Is.of a) (Is.of b) hb
  have b1 := lz_quoN a.num a.den b.num b.den
  have := h.num
  have := h.den
  have := g.num
  have := g.den
  exact i.sz (by omega) (by omega)
theorem sz_one : Sz 1 1 := ⟨by decide +kernel, by decide +kernel⟩
end
section
variable {a b : Rat} {n d m f N D : Int}
theorem plus_r (ha : Is a n d) (hb : Is b m f) (hz : Is (a + b) N D) (sa : Sz a 100000000) (sb : Sz b 100000000) : OpR 144 n d m f N D := by
  obtain ⟨rfl, rfl⟩ := hz.uniq (is_add ha hb)
  have l1 := sa.lz ha
  have l2 := sb.lz hb
  intro V v1 v2 g1 g2
  obtain ⟨A, c, B, e0, rfl, a1, a2⟩ := g1.form
  obtain ⟨A2, c2, B2, e2, rfl, a3, a4⟩ := g2.form
  exact ratio_Plus_own n d m f A B A2 B2 c e0 c2 e2 V a1 a2 a3 a4 l1.1 l1.2 l2.1 l2.2 (by have := ha.pos; omega) (by have := hb.pos; omega)
theorem minus_r (ha : Is a n d) (hb : Is b m f) (hz : Is (a - b) N D) (sa : Sz a 100000000) (sb : Sz b 100000000) : OpR 143 n d m f N D := by
  obtain ⟨rfl, rfl⟩ := hz.uniq (is_sub ha hb)
  have l1 := sa.lz ha
  have l2 := sb.lz hb
  intro V v1 v2 g1 g2
  obtain ⟨A, c, B, e0, rfl, a1, a2⟩ := g1.form
  obtain ⟨A2, c2, B2, e2, rfl, a3, a4⟩ := g2.form
  exact ratio_Minus_own n d m f A B A2 B2 c e0 c2 e2 V a1 a2 a3 a4 l1.1 l1.2 l2.1 l2.2 (by have := ha.pos; omega) (by have := hb.pos; omega)
theorem times_r (ha : Is a n d) (hb : Is b m f) (hz : Is (a * b) N D) (sa : Sz a 100000000) (sb : Sz b 100000000) : OpR 136 n d m f N D := by
  obtain ⟨rfl, rfl⟩ := hz.uniq (is_mul ha hb)
  have l1 := sa.lz ha
  have l2 := sb.lz hb
  intro V v1 v2 g1 g2
  obtain ⟨A, c, B, e0, rfl, a1, a2⟩ := g1.form
  obtain ⟨A2, c2, B2, e2, rfl, a3, a4⟩ := g2.form
  exact ratio_Times_own n d m f A B A2 B2 c e0 c2 e2 V a1 a2 a3 a4 l1.1 l1.2 l2.1 l2.2 (by have := ha.pos; omega) (by have := hb.pos; omega)
theorem over_r (ha : Is a n d) (hb : Is b m f) (hz : Is (a / b) N D) (sa : Sz a 100000000) (sb : Sz b 100000000) (hb0 : b ≠ 0) : OpR 146 n d m f N D := by
  obtain ⟨rfl, rfl⟩ := hz.uniq (is_quo ha hb hb0)
  have l1 := sa.lz ha
  have l2 := sb.lz hb
  intro V v1 v2 g1 g2
  obtain ⟨A, c, B, e0, rfl, a1, a2⟩ := g1.form
  obtain ⟨A2, c2, B2, e2, rfl, a3, a4⟩ := g2.form
  exact ratio_Over_own n d m f A B A2 B2 c e0 c2 e2 V a1 a2 a3 a4 l1.1 l1.2 l2.1 l2.2 (by have := ha.pos; omega) (by intro e; exact hb0 (hb.nought.1 e))
end
/- Add, Sub, Mul, Quo of package frac. (Written by wip/frac/genfclos2.py.) -/

structure AlwaysAt (f : FuncId) (u : Value) (V : World) : Prop where
  form : ∃ g, u = .func (.func 210) #[] #[.pointer (some ⟨g, 0, none⟩)] ∧ Blk V g 98 #[.func (.func f) #[] #[]]
theorem AlwaysAt.kept {f : FuncId} {u : Value} {V V' : World} {B : Nat} {Ts : List TypeId} (h : AlwaysAt f u V) (k : KeptV B Ts V V') (hT : 98 ∉ Ts) : AlwaysAt f u V' := by
  obtain ⟨g, h1, h2⟩ := h.form
  exact ⟨g, h1, k.blk h2 hT⟩
structure TupF (base : Nat) (n d k : Int) (u : Value) (V : World) : Prop where
  form : ∃ v, u = .tuple #[v, .int .i64 k] ∧ FracOwn V base v n d
theorem TupF.kept {base : Nat} {n d k : Int} {u : Value} {V V' : World} {B : Nat} {Ts : List TypeId} (h : TupF base n d k u V) (hk : KeptV B Ts V V') (hT : 114 ∉ Ts) : TupF base n d k u V' := by
  obtain ⟨v, h1, h2⟩ := h.form
  exact ⟨v, h1, h2.kept hk hT⟩
theorem FracIn.nought (w : World) (base : Nat) : FracIn w base (.agg #[.bool false, .slice none 0 0, .bool false, .slice none 0 0]) 0 0 := ⟨none, 0, none, 0, rfl, IntOwn.nought _ _, IntOwn.nought _ _⟩
structure BlkH (w : World) (g : Nat) (t : TypeId) (cs : Array Value) : Prop where
  blk : Blk w g t cs
theorem BlkH.below {w w' : World} {g : Nat} {t : TypeId} {cs : Array Value} (h : BlkH w g t cs) (hb : Below w.heap.size w w') : BlkH w' g t cs := ⟨h.blk.below hb h.blk.lt⟩

theorem always_any (k : FuncId) (w : World) : Calls Tryz.prog 135 #[.func (.func k) #[] #[]] w fun e w' => ∃ v, e = .returned v ∧ AlwaysAt k v w' ∧ Below w.heap.size w w' := by
  have b0 := Hd ((Below.refl w.heap.size w).alloc (Nat.le_refl _) (.cells #[.func (.func k) #[] #[]] 98))
  have pb := Hd (Blk.new w 98 #[.func (.func k) #[] #[]])
  have hmf : ∀ (fn : Fn) (first cap : Array Value) (w : World), (Instr.makeFunc fn first cap).run Tryz.prog w = .ok (.func fn first cap) w := fun _ _ _ _ => rfl
  go_enter Tryz.func135, Tryz.ntmps135
  go_wp2_with fail
  go_ret
  exact ⟨_, rfl, ⟨_, rfl, pb.out⟩, b0.out⟩

theorem clos_add (n1 n2 n3 n4 : Bool) (A B A2 B2 : Option Addr) (c e0 c2 e2 : Nat) (xs ys us vs : List Nat) (N D : Int) (C : ∀ (V : World), Raw V A c xs → Raw V B e0 ys → Raw V A2 c2 us → Raw V B2 e2 vs → Calls Tryz.prog 144 #[.agg #[.bool n1, .slice A xs.length c, .bool n2, .slice B ys.length e0], .agg #[.bool n3, .slice A2 us.length c2, .bool n4, .slice B2 vs.length e2]] V (RetFracIn V N D)) (g : Nat) (w : World) (hg : Blk w g 98 #[.func (.func 144) #[] #[]]) (hx : Raw w A c xs) (kx : Raw w B e0 ys) (hy : Raw w A2 c2 us) (ky : Raw w B2 e2 vs) :
    Calls Tryz.prog 210 #[.agg #[.bool n1, .slice A xs.length c, .bool n2, .slice B ys.length e0], .agg #[.bool n3, .slice A2 us.length c2, .bool n4, .slice B2 vs.length e2], .pointer (some ⟨g, 0, none⟩)] w (RetFracB w N D true) := by
  have H2 := Hd C
  clear C
  have b0 := ((((Below.refl w.heap.size w).alloc (Nat.le_refl _) (.cells #[.bool n1, .slice A xs.length c, .bool n2, .slice B ys.length e0] 26)).alloc (by simp) (.cells #[.bool n3, .slice A2 us.length c2, .bool n4, .slice B2 vs.length e2] 26)).alloc (by simp; omega) (.cells #[.bool false, .slice none 0 0, .bool false, .slice none 0 0] 26))
  have p0 := ((Quad.new w (.bool n1) (.slice A xs.length c) (.bool n2) (.slice B ys.length e0)).alloc (.cells #[.bool n3, .slice A2 us.length c2, .bool n4, .slice B2 vs.length e2] 26)).alloc (.cells #[.bool false, .slice none 0 0, .bool false, .slice none 0 0] 26)
  have p1 := (Quad.new (w.alloc (.cells #[.bool n1, .slice A xs.length c, .bool n2, .slice B ys.length e0] 26)) (.bool n3) (.slice A2 us.length c2) (.bool n4) (.slice B2 vs.length e2)).alloc (.cells #[.bool false, .slice none 0 0, .bool false, .slice none 0 0] 26)
  have p2 := Quad.new ((w.alloc (.cells #[.bool n1, .slice A xs.length c, .bool n2, .slice B ys.length e0] 26)).alloc (.cells #[.bool n3, .slice A2 us.length c2, .bool n4, .slice B2 vs.length e2] 26)) (.bool false) (.slice none 0 0) (.bool false) (.slice none 0 0)
  simp only [World.size_alloc] at p1 p2
  have PX := Hd p0
  have PY := Hd p1
  have PR := Hd p2
  have RX := Hd (hx.below b0)
  have KX := Hd (kx.below b0)
  have RY := Hd (hy.below b0)
  have KY := Hd (ky.below b0)
  have PG := Hd (hg.below b0 hg.lt)
  have HB := Hd b0
  clear b0 p0 p1 p2 hx kx hy ky hg
  go_enter Tryz.func210, Tryz.ntmps210
  obtain ⟨W, E⟩ : ∃ W, W = (((w.alloc (.cells #[.bool n1, .slice A xs.length c, .bool n2, .slice B ys.length e0] 26)).alloc (.cells #[.bool n3, .slice A2 us.length c2, .bool n4, .slice B2 vs.length e2] 26)).alloc (.cells #[.bool false, .slice none 0 0, .bool false, .slice none 0 0] 26)) := ⟨_, rfl⟩
  go_upto_region 1 with fail
  rw [← E] at PX PY PR RX KX RY KY PG HB ⊢
  clear E
  have HS0 := Hd (show w.heap.size ≤ W.heap.size from HB.out.size)
  obtain ⟨l_x, x0, x1, x2, x3, -, -, -, -⟩ := PX.out.facts
  obtain ⟨l_y, y0, y1, y2, y3, -, -, -, -⟩ := PY.out.facts
  have g0 := PG.out.cell 0
  simp at g0
  go_wp2_with fail
  refine (H2.out W RX.out KX.out RY.out KY.out).mono ?_
  rintro e wx1 ⟨v, rfl, hI, hb⟩
  clear l_x x0 x1 x2 x3
  clear l_y y0 y1 y2 y3
  clear g0
  obtain ⟨A7, c7, B7, e7, rfl, -⟩ := hI.form
  have O7 := Hd hI
  clear hI
  have HS_wx1 := Hd (show W.heap.size ≤ wx1.heap.size from hb.size)
  have PX := Hd (PX.out.below hb)
  have PY := Hd (PY.out.below hb)
  have PR := Hd (PR.out.below hb)
  have RX := Hd (RX.out.below hb)
  have KX := Hd (KX.out.below hb)
  have RY := Hd (RY.out.below hb)
  have KY := Hd (KY.out.below hb)
  have HB := Hd (belowTo HB.out hb)
  obtain ⟨l_r, r0, r1, r2, r3, fr0, fr1, fr2, fr3⟩ := PR.out.facts
  have HQ := Hd (PR.out.store (.bool (decide (N < 0))) (.slice A7 (natL N.natAbs).length c7) (.bool (decide (D < 0))) (.slice B7 (natL D.natAbs).length e7))
  have HF := Hd (below4 HB.out (show w.heap.size ≤ w.heap.size + 1 + 1 by omega) (.bool (decide (N < 0))) (.slice A7 (natL N.natAbs).length c7) (.bool (decide (D < 0))) (.slice B7 (natL D.natAbs).length e7))
  have HO := Hd (O7.out.quad PR.out (.bool (decide (N < 0))) (.slice A7 (natL N.natAbs).length c7) (.bool (decide (D < 0))) (.slice B7 (natL D.natAbs).length e7))
  go_wp2_with fail
  obtain ⟨_, k0, k1, k2, k3, _⟩ := HQ.out.facts
  exact bodyPost_ret (by simp [results, Tryz.results210, go_sem, k0, k1, k2, k3]) rfl ⟨_, rfl, HO.out, HF.out⟩

theorem clos_sub (n1 n2 n3 n4 : Bool) (A B A2 B2 : Option Addr) (c e0 c2 e2 : Nat) (xs ys us vs : List Nat) (N D : Int) (C : ∀ (V : World), Raw V A c xs → Raw V B e0 ys → Raw V A2 c2 us → Raw V B2 e2 vs → Calls Tryz.prog 143 #[.agg #[.bool n1, .slice A xs.length c, .bool n2, .slice B ys.length e0], .agg #[.bool n3, .slice A2 us.length c2, .bool n4, .slice B2 vs.length e2]] V (RetFracIn V N D)) (g : Nat) (w : World) (hg : Blk w g 98 #[.func (.func 143) #[] #[]]) (hx : Raw w A c xs) (kx : Raw w B e0 ys) (hy : Raw w A2 c2 us) (ky : Raw w B2 e2 vs) :
    Calls Tryz.prog 210 #[.agg #[.bool n1, .slice A xs.length c, .bool n2, .slice B ys.length e0], .agg #[.bool n3, .slice A2 us.length c2, .bool n4, .slice B2 vs.length e2], .pointer (some ⟨g, 0, none⟩)] w (RetFracB w N D true) := by
  have H2 := Hd C
  clear C
  have b0 := ((((Below.refl w.heap.size w).alloc (Nat.le_refl _) (.cells #[.bool n1, .slice A xs.length c, .bool n2, .slice B ys.length e0] 26)).alloc (by simp) (.cells #[.bool n3, .slice A2 us.length c2, .bool n4, .slice B2 vs.length e2] 26)).alloc (by simp; omega) (.cells #[.bool false, .slice none 0 0, .bool false, .slice none 0 0] 26))
  have p0 := ((Quad.new w (.bool n1) (.slice A xs.length c) (.bool n2) (.slice B ys.length e0)).alloc (.cells #[.bool n3, .slice A2 us.length c2, .bool n4, .slice B2 vs.length e2] 26)).alloc (.cells #[.bool false, .slice none 0 0, .bool false, .slice none 0 0] 26)
  have p1 := (Quad.new (w.alloc (.cells #[.bool n1, .slice A xs.length c, .bool n2, .slice B ys.length e0] 26)) (.bool n3) (.slice A2 us.length c2) (.bool n4) (.slice B2 vs.length e2)).alloc (.cells #[.bool false, .slice none 0 0, .bool false, .slice none 0 0] 26)
  have p2 := Quad.new ((w.alloc (.cells #[.bool n1, .slice A xs.length c, .bool n2, .slice B ys.length e0] 26)).alloc (.cells #[.bool n3, .slice A2 us.length c2, .bool n4, .slice B2 vs.length e2] 26)) (.bool false) (.slice none 0 0) (.bool false) (.slice none 0 0)
  simp only [World.size_alloc] at p1 p2
  have PX := Hd p0
  have PY := Hd p1
  have PR := Hd p2
  have RX := Hd (hx.below b0)
  have KX := Hd (kx.below b0)
  have RY := Hd (hy.below b0)
  have KY := Hd (ky.below b0)
  have PG := Hd (hg.below b0 hg.lt)
  have HB := Hd b0
  clear b0 p0 p1 p2 hx kx hy ky hg
  go_enter Tryz.func210, Tryz.ntmps210
  obtain ⟨W, E⟩ : ∃ W, W = (((w.alloc (.cells #[.bool n1, .slice A xs.length c, .bool n2, .slice B ys.length e0] 26)).alloc (.cells #[.bool n3, .slice A2 us.length c2, .bool n4, .slice B2 vs.length e2] 26)).alloc (.cells #[.bool false, .slice none 0 0, .bool false, .slice none 0 0] 26)) := ⟨_, rfl⟩
  go_upto_region 1 with fail
  rw [← E] at PX PY PR RX KX RY KY PG HB ⊢
  clear E
  have HS0 := Hd (show w.heap.size ≤ W.heap.size from HB.out.size)
  obtain ⟨l_x, x0, x1, x2, x3, -, -, -, -⟩ := PX.out.facts
  obtain ⟨l_y, y0, y1, y2, y3, -, -, -, -⟩ := PY.out.facts
  have g0 := PG.out.cell 0
  simp at g0
  go_wp2_with fail
  refine (H2.out W RX.out KX.out RY.out KY.out).mono ?_
  rintro e wx1 ⟨v, rfl, hI, hb⟩
  clear l_x x0 x1 x2 x3
  clear l_y y0 y1 y2 y3
  clear g0
  obtain ⟨A7, c7, B7, e7, rfl, -⟩ := hI.form
  have O7 := Hd hI
  clear hI
  have HS_wx1 := Hd (show W.heap.size ≤ wx1.heap.size from hb.size)
  have PX := Hd (PX.out.below hb)
  have PY := Hd (PY.out.below hb)
  have PR := Hd (PR.out.below hb)
  have RX := Hd (RX.out.below hb)
  have KX := Hd (KX.out.below hb)
  have RY := Hd (RY.out.below hb)
  have KY := Hd (KY.out.below hb)
  have HB := Hd (belowTo HB.out hb)
  obtain ⟨l_r, r0, r1, r2, r3, fr0, fr1, fr2, fr3⟩ := PR.out.facts
  have HQ := Hd (PR.out.store (.bool (decide (N < 0))) (.slice A7 (natL N.natAbs).length c7) (.bool (decide (D < 0))) (.slice B7 (natL D.natAbs).length e7))
  have HF := Hd (below4 HB.out (show w.heap.size ≤ w.heap.size + 1 + 1 by omega) (.bool (decide (N < 0))) (.slice A7 (natL N.natAbs).length c7) (.bool (decide (D < 0))) (.slice B7 (natL D.natAbs).length e7))
  have HO := Hd (O7.out.quad PR.out (.bool (decide (N < 0))) (.slice A7 (natL N.natAbs).length c7) (.bool (decide (D < 0))) (.slice B7 (natL D.natAbs).length e7))
  go_wp2_with fail
  obtain ⟨_, k0, k1, k2, k3, _⟩ := HQ.out.facts
  exact bodyPost_ret (by simp [results, Tryz.results210, go_sem, k0, k1, k2, k3]) rfl ⟨_, rfl, HO.out, HF.out⟩

theorem clos_mul (n1 n2 n3 n4 : Bool) (A B A2 B2 : Option Addr) (c e0 c2 e2 : Nat) (xs ys us vs : List Nat) (N D : Int) (C : ∀ (V : World), Raw V A c xs → Raw V B e0 ys → Raw V A2 c2 us → Raw V B2 e2 vs → Calls Tryz.prog 136 #[.agg #[.bool n1, .slice A xs.length c, .bool n2, .slice B ys.length e0], .agg #[.bool n3, .slice A2 us.length c2, .bool n4, .slice B2 vs.length e2]] V (RetFracIn V N D)) (g : Nat) (w : World) (hg : Blk w g 98 #[.func (.func 136) #[] #[]]) (hx : Raw w A c xs) (kx : Raw w B e0 ys) (hy : Raw w A2 c2 us) (ky : Raw w B2 e2 vs) :
    Calls Tryz.prog 210 #[.agg #[.bool n1, .slice A xs.length c, .bool n2, .slice B ys.length e0], .agg #[.bool n3, .slice A2 us.length c2, .bool n4, .slice B2 vs.length e2], .pointer (some ⟨g, 0, none⟩)] w (RetFracB w N D true) := by
  have H2 := Hd C
  clear C
  have b0 := ((((Below.refl w.heap.size w).alloc (Nat.le_refl _) (.cells #[.bool n1, .slice A xs.length c, .bool n2, .slice B ys.length e0] 26)).alloc (by simp) (.cells #[.bool n3, .slice A2 us.length c2, .bool n4, .slice B2 vs.length e2] 26)).alloc (by simp; omega) (.cells #[.bool false, .slice none 0 0, .bool false, .slice none 0 0] 26))
  have p0 := ((Quad.new w (.bool n1) (.slice A xs.length c) (.bool n2) (.slice B ys.length e0)).alloc (.cells #[.bool n3, .slice A2 us.length c2, .bool n4, .slice B2 vs.length e2] 26)).alloc (.cells #[.bool false, .slice none 0 0, .bool false, .slice none 0 0] 26)
  have p1 := (Quad.new (w.alloc (.cells #[.bool n1, .slice A xs.length c, .bool n2, .slice B ys.length e0] 26)) (.bool n3) (.slice A2 us.length c2) (.bool n4) (.slice B2 vs.length e2)).alloc (.cells #[.bool false, .slice none 0 0, .bool false, .slice none 0 0] 26)
  have p2 := Quad.new ((w.alloc (.cells #[.bool n1, .slice A xs.length c, .bool n2, .slice B ys.length e0] 26)).alloc (.cells #[.bool n3, .slice A2 us.length c2, .bool n4, .slice B2 vs.length e2] 26)) (.bool false) (.slice none 0 0) (.bool false) (.slice none 0 0)
  simp only [World.size_alloc] at p1 p2
  have PX := Hd p0
  have PY := Hd p1
  have PR := Hd p2
  have RX := Hd (hx.below b0)
  have KX := Hd (kx.below b0)
  have RY := Hd (hy.below b0)
  have KY := Hd (ky.below b0)
  have PG := Hd (hg.below b0 hg.lt)
  have HB := Hd b0
  clear b0 p0 p1 p2 hx kx hy ky hg
  go_enter Tryz.func210, Tryz.ntmps210
  obtain ⟨W, E⟩ : ∃ W, W = (((w.alloc (.cells #[.bool n1, .slice A xs.length c, .bool n2, .slice B ys.length e0] 26)).alloc (.cells #[.bool n3, .slice A2 us.length c2, .bool n4, .slice B2 vs.length e2] 26)).alloc (.cells #[.bool false, .slice none 0 0, .bool false, .slice none 0 0] 26)) := ⟨_, rfl⟩
  go_upto_region 1 with fail
  rw [← E] at PX PY PR RX KX RY KY PG HB ⊢
  clear E
  have HS0 := Hd (show w.heap.size ≤ W.heap.size from HB.out.size)
  obtain ⟨l_x, x0, x1, x2, x3, -, -, -, -⟩ := PX.out.facts
  obtain ⟨l_y, y0, y1, y2, y3, -, -, -, -⟩ := PY.out.facts
  have g0 := PG.out.cell 0
  simp at g0
  go_wp2_with fail
  refine (H2.out W RX.out KX.out RY.out KY.out).mono ?_
  rintro e wx1 ⟨v, rfl, hI, hb⟩
  clear l_x x0 x1 x2 x3
  clear l_y y0 y1 y2 y3
  clear g0
  obtain ⟨A7, c7, B7, e7, rfl, -⟩ := hI.form
  have O7 := Hd hI
  clear hI
  have HS_wx1 := Hd (show W.heap.size ≤ wx1.heap.size from hb.size)
  have PX := Hd (PX.out.below hb)
  have PY := Hd (PY.out.below hb)
  have PR := Hd (PR.out.below hb)
  have RX := Hd (RX.out.below hb)
  have KX := Hd (KX.out.below hb)
  have RY := Hd (RY.out.below hb)
  have KY := Hd (KY.out.below hb)
  have HB := Hd (belowTo HB.out hb)
  obtain ⟨l_r, r0, r1, r2, r3, fr0, fr1, fr2, fr3⟩ := PR.out.facts
  have HQ := Hd (PR.out.store (.bool (decide (N < 0))) (.slice A7 (natL N.natAbs).length c7) (.bool (decide (D < 0))) (.slice B7 (natL D.natAbs).length e7))
  have HF := Hd (below4 HB.out (show w.heap.size ≤ w.heap.size + 1 + 1 by omega) (.bool (decide (N < 0))) (.slice A7 (natL N.natAbs).length c7) (.bool (decide (D < 0))) (.slice B7 (natL D.natAbs).length e7))
  have HO := Hd (O7.out.quad PR.out (.bool (decide (N < 0))) (.slice A7 (natL N.natAbs).length c7) (.bool (decide (D < 0))) (.slice B7 (natL D.natAbs).length e7))
  go_wp2_with fail
  obtain ⟨_, k0, k1, k2, k3, _⟩ := HQ.out.facts
  exact bodyPost_ret (by simp [results, Tryz.results210, go_sem, k0, k1, k2, k3]) rfl ⟨_, rfl, HO.out, HF.out⟩

theorem do_always (k : FuncId) (g : Nat) (n1 n2 n3 n4 : Bool) (A B A2 B2 : Option Addr) (c e0 c2 e2 : Nat) (xs ys us vs : List Nat) (N D : Int) (C : ∀ (V : World), Blk V g 98 #[.func (.func k) #[] #[]] → Raw V A c xs → Raw V B e0 ys → Raw V A2 c2 us → Raw V B2 e2 vs → Calls Tryz.prog 210 #[.agg #[.bool n1, .slice A xs.length c, .bool n2, .slice B ys.length e0], .agg #[.bool n3, .slice A2 us.length c2, .bool n4, .slice B2 vs.length e2], .pointer (some ⟨g, 0, none⟩)] V (RetFracB V N D true)) (w : World) (hx : Raw w A c xs) (kx : Raw w B e0 ys) (hy : Raw w A2 c2 us) (ky : Raw w B2 e2 vs) (hc : (chkE n1 n2 xs ys == 0 && chkE n3 n4 us vs == 0) = true) (hg : Blk w g 98 #[.func (.func k) #[] #[]]) :
    Calls Tryz.prog 137 #[.func (.func 210) #[] #[.pointer (some ⟨g, 0, none⟩)], .agg #[.bool n1, .slice A xs.length c, .bool n2, .slice B ys.length e0], .agg #[.bool n3, .slice A2 us.length c2, .bool n4, .slice B2 vs.length e2]] w (RetFracOwn2 w.heap.size w (ansN N D) (ansD N D) (ansK N D)) := by
  have C1 := fun (V : World) (g' : Nat) (a1 : Raw V A c xs) (a2 : Raw V B e0 ys) (a3 : Raw V A2 c2 us) (a4 : Raw V B2 e2 vs) (hg : V.heap.size = g') => checks_two n1 n2 n3 n4 A B A2 B2 c e0 c2 e2 xs ys us vs V g' a1 a2 a3 a4 hg
  rw [hc] at C1
  have H1 := Hd C1
  clear C1
  have C3 := fun (V : World) (A' B' : Option Addr) (c' e' : Nat) (h : Raw V A' c' (natL N.natAbs)) (g : Raw V B' e' (natL D.natAbs)) => frac_answered N D A' B' c' e' V h g
  obtain ⟨N9, hN9⟩ : ∃ k : Int, k = ansN N D := ⟨_, rfl⟩
  obtain ⟨D9, hD9⟩ : ∃ k : Int, k = ansD N D := ⟨_, rfl⟩
  obtain ⟨K9, hK9⟩ : ∃ k : Int, k = ansK N D := ⟨_, rfl⟩
  rw [← hN9, ← hD9, ← hK9] at C3 ⊢
  have H3 := Hd C3
  clear hN9 hD9 hK9 C3
  have H2 := Hd C
  clear C hc
  have b0 := ((((Below.refl w.heap.size w).alloc (Nat.le_refl _) (.cells #[.bool n1, .slice A xs.length c, .bool n2, .slice B ys.length e0] 26)).alloc (by simp) (.cells #[.bool n3, .slice A2 us.length c2, .bool n4, .slice B2 vs.length e2] 26)).alloc (by simp; omega) (.cells #[.bool false, .slice none 0 0, .bool false, .slice none 0 0] 26))
  have p0 := ((Quad.new w (.bool n1) (.slice A xs.length c) (.bool n2) (.slice B ys.length e0)).alloc (.cells #[.bool n3, .slice A2 us.length c2, .bool n4, .slice B2 vs.length e2] 26)).alloc (.cells #[.bool false, .slice none 0 0, .bool false, .slice none 0 0] 26)
  have p1 := (Quad.new (w.alloc (.cells #[.bool n1, .slice A xs.length c, .bool n2, .slice B ys.length e0] 26)) (.bool n3) (.slice A2 us.length c2) (.bool n4) (.slice B2 vs.length e2)).alloc (.cells #[.bool false, .slice none 0 0, .bool false, .slice none 0 0] 26)
  have p2 := Quad.new ((w.alloc (.cells #[.bool n1, .slice A xs.length c, .bool n2, .slice B ys.length e0] 26)).alloc (.cells #[.bool n3, .slice A2 us.length c2, .bool n4, .slice B2 vs.length e2] 26)) (.bool false) (.slice none 0 0) (.bool false) (.slice none 0 0)
  simp only [World.size_alloc] at p1 p2
  have PX := Hd p0
  have PY := Hd p1
  have PR := Hd p2
  have RX := Hd (hx.below b0)
  have KX := Hd (kx.below b0)
  have RY := Hd (hy.below b0)
  have KY := Hd (ky.below b0)
  have PG := Hd (hg.below b0 hg.lt)
  have HB := Hd b0
  clear b0 p0 p1 p2 hx kx hy ky hg
  go_enter Tryz.func137, Tryz.ntmps137
  obtain ⟨W, E⟩ : ∃ W, W = (((w.alloc (.cells #[.bool n1, .slice A xs.length c, .bool n2, .slice B ys.length e0] 26)).alloc (.cells #[.bool n3, .slice A2 us.length c2, .bool n4, .slice B2 vs.length e2] 26)).alloc (.cells #[.bool false, .slice none 0 0, .bool false, .slice none 0 0] 26)) := ⟨_, rfl⟩
  go_upto_region 1 with fail
  rw [← E] at PX PY PR RX KX RY KY PG HB ⊢
  clear E
  have HS0 := Hd (show w.heap.size ≤ W.heap.size from HB.out.size)
  have PG := Hd (BlkH.mk PG.out)
  obtain ⟨l_x, x0, x1, x2, x3, -, -, -, -⟩ := PX.out.facts
  obtain ⟨l_y, y0, y1, y2, y3, -, -, -, -⟩ := PY.out.facts
  go_wp2_with fail
  refine (H1.out W _ RX.out KX.out RY.out KY.out rfl).mono ?_
  rintro e wx1 ⟨rfl, hb⟩
  clear l_x x0 x1 x2 x3
  clear l_y y0 y1 y2 y3
  have hb := ((Below.refl W.heap.size W).alloc (Nat.le_refl _) (.cells #[.bool n1, .slice A xs.length c, .bool n2, .slice B ys.length e0, .bool n3, .slice A2 us.length c2, .bool n4, .slice B2 vs.length e2] 26)).trans (hb.mono (by simp))
  have HS_wx1 := Hd (show W.heap.size ≤ wx1.heap.size from hb.size)
  have PX := Hd (PX.out.below hb)
  have PY := Hd (PY.out.below hb)
  have PR := Hd (PR.out.below hb)
  have RX := Hd (RX.out.below hb)
  have KX := Hd (KX.out.below hb)
  have RY := Hd (RY.out.below hb)
  have KY := Hd (KY.out.below hb)
  have PG := Hd (PG.out.below hb)
  have HB := Hd (belowTo HB.out hb)
  obtain ⟨l_x, x0, x1, x2, x3, -, -, -, -⟩ := PX.out.facts
  obtain ⟨l_y, y0, y1, y2, y3, -, -, -, -⟩ := PY.out.facts
  go_wp2_with fail
  refine (H2.out wx1 PG.out.blk RX.out KX.out RY.out KY.out).mono ?_
  rintro e wx2 ⟨v, rfl, hI, hb⟩
  clear l_x x0 x1 x2 x3
  clear l_y y0 y1 y2 y3
  obtain ⟨A7, c7, B7, e7, rfl, -⟩ := hI.form
  have O7 := Hd hI
  clear hI
  have HS_wx2 := Hd (show wx1.heap.size ≤ wx2.heap.size from hb.size)
  have PX := Hd (PX.out.below hb)
  have PY := Hd (PY.out.below hb)
  have PR := Hd (PR.out.below hb)
  have RX := Hd (RX.out.below hb)
  have KX := Hd (KX.out.below hb)
  have RY := Hd (RY.out.below hb)
  have KY := Hd (KY.out.below hb)
  have PG := Hd (PG.out.below hb)
  have HB := Hd (belowTo HB.out hb)
  have ha := (Below.refl wx2.heap.size wx2).alloc (Nat.le_refl _) (.cells #[.bool (decide (N < 0)), .slice A7 (natL N.natAbs).length c7, .bool (decide (D < 0)), .slice B7 (natL D.natAbs).length e7] 26)
  have hn := Quad.new wx2 (.bool (decide (N < 0))) (.slice A7 (natL N.natAbs).length c7) (.bool (decide (D < 0))) (.slice B7 (natL D.natAbs).length e7)
  have hz : (wx2.alloc (.cells #[.bool (decide (N < 0)), .slice A7 (natL N.natAbs).length c7, .bool (decide (D < 0)), .slice B7 (natL D.natAbs).length e7] 26)).heap.size = wx2.heap.size + 1 := by simp
  go_upto_region 4 with fail
  obtain ⟨wy3, E⟩ : ∃ W, W = wx2.alloc (.cells #[.bool (decide (N < 0)), .slice A7 (natL N.natAbs).length c7, .bool (decide (D < 0)), .slice B7 (natL D.natAbs).length e7] 26) := ⟨_, rfl⟩
  obtain ⟨q3, hq⟩ : ∃ q, q = wx2.heap.size := ⟨_, rfl⟩
  rw [← E] at ha
  rw [← E, ← hq] at hn hz ⊢
  have HZ_wy3 := Hd (And.intro hq hz)
  have P7 := Hd hn
  have PR := Hd (PR.out.below ha)
  have O7 := Hd (O7.out.below ha)
  have HB := Hd (belowTo HB.out ha)
  clear ha hn hz hq E
  have R7 := Hd O7.out.at_
  obtain ⟨A0, c0, B0, e9, he, r71, r72⟩ := R7.out.form
  simp only [Value.agg.injEq, Array.mk.injEq, List.cons.injEq, Value.slice.injEq, and_true, true_and] at he
  obtain ⟨⟨rfl, rfl⟩, rfl, rfl⟩ := he
  have R71 := Hd r71
  have R72 := Hd r72
  clear R7 r71 r72
  have hsy := Hd (show w.heap.size ≤ wy3.heap.size from HB.out.size)
  obtain ⟨l_z, z0, z1, z2, z3, -, -, -, -⟩ := P7.out.facts
  go_wp2_with fail
  refine (H3.out wy3 A7 B7 c7 e7 R71.out R72.out).mono ?_
  rintro e wx4 ⟨v, rfl, hI, hb⟩
  clear l_z z0 z1 z2 z3
  obtain ⟨A8, c8, B8, e8, rfl, -⟩ := hI.form
  have O8 := Hd hI
  clear hI R71 R72
  have HS_wx4 := Hd (show wy3.heap.size ≤ wx4.heap.size from hb.size)
  have PR := Hd (PR.out.below hb)
  have HB := Hd (belowTo HB.out hb)
  obtain ⟨l_r, r0, r1, r2, r3, fr0, fr1, fr2, fr3⟩ := PR.out.facts
  have HQ := Hd (PR.out.store (.bool (decide (N9 < 0))) (.slice A8 (natL N9.natAbs).length c8) (.bool (decide (D9 < 0))) (.slice B8 (natL D9.natAbs).length e8))
  have HF := Hd (below4 HB.out (show w.heap.size ≤ w.heap.size + 1 + 1 by omega) (.bool (decide (N9 < 0))) (.slice A8 (natL N9.natAbs).length c8) (.bool (decide (D9 < 0))) (.slice B8 (natL D9.natAbs).length e8))
  have HO := Hd (O8.out.quad PR.out (.bool (decide (N9 < 0))) (.slice A8 (natL N9.natAbs).length c8) (.bool (decide (D9 < 0))) (.slice B8 (natL D9.natAbs).length e8))
  go_wp2_with fail
  obtain ⟨_, k0, k1, k2, k3, _⟩ := HQ.out.facts
  exact bodyPost_ret (by simp [results, Tryz.results137, go_sem, k0, k1, k2, k3]) rfl ⟨_, rfl, HO.out.base hsy.out, HF.out⟩

theorem do_over (n1 n2 n3 n4 : Bool) (A B A2 B2 : Option Addr) (c e0 c2 e2 : Nat) (xs ys us vs : List Nat) (N D : Int) (C : ∀ (V : World), Raw V A c xs → Raw V B e0 ys → Raw V A2 c2 us → Raw V B2 e2 vs → Calls Tryz.prog 145 #[.agg #[.bool n1, .slice A xs.length c, .bool n2, .slice B ys.length e0], .agg #[.bool n3, .slice A2 us.length c2, .bool n4, .slice B2 vs.length e2]] V (RetFracB V N D true)) (w : World) (hx : Raw w A c xs) (kx : Raw w B e0 ys) (hy : Raw w A2 c2 us) (ky : Raw w B2 e2 vs) (hc : (chkE n1 n2 xs ys == 0 && chkE n3 n4 us vs == 0) = true) :
    Calls Tryz.prog 137 #[.func (.func 145) #[] #[], .agg #[.bool n1, .slice A xs.length c, .bool n2, .slice B ys.length e0], .agg #[.bool n3, .slice A2 us.length c2, .bool n4, .slice B2 vs.length e2]] w (RetFracOwn2 w.heap.size w (ansN N D) (ansD N D) (ansK N D)) := by
  have C1 := fun (V : World) (g' : Nat) (a1 : Raw V A c xs) (a2 : Raw V B e0 ys) (a3 : Raw V A2 c2 us) (a4 : Raw V B2 e2 vs) (hg : V.heap.size = g') => checks_two n1 n2 n3 n4 A B A2 B2 c e0 c2 e2 xs ys us vs V g' a1 a2 a3 a4 hg
  rw [hc] at C1
  have H1 := Hd C1
  clear C1
  have C3 := fun (V : World) (A' B' : Option Addr) (c' e' : Nat) (h : Raw V A' c' (natL N.natAbs)) (g : Raw V B' e' (natL D.natAbs)) => frac_answered N D A' B' c' e' V h g
  obtain ⟨N9, hN9⟩ : ∃ k : Int, k = ansN N D := ⟨_, rfl⟩
  obtain ⟨D9, hD9⟩ : ∃ k : Int, k = ansD N D := ⟨_, rfl⟩
  obtain ⟨K9, hK9⟩ : ∃ k : Int, k = ansK N D := ⟨_, rfl⟩
  rw [← hN9, ← hD9, ← hK9] at C3 ⊢
  have H3 := Hd C3
  clear hN9 hD9 hK9 C3
  have H2 := Hd C
  clear C hc
  have b0 := ((((Below.refl w.heap.size w).alloc (Nat.le_refl _) (.cells #[.bool n1, .slice A xs.length c, .bool n2, .slice B ys.length e0] 26)).alloc (by simp) (.cells #[.bool n3, .slice A2 us.length c2, .bool n4, .slice B2 vs.length e2] 26)).alloc (by simp; omega) (.cells #[.bool false, .slice none 0 0, .bool false, .slice none 0 0] 26))
  have p0 := ((Quad.new w (.bool n1) (.slice A xs.length c) (.bool n2) (.slice B ys.length e0)).alloc (.cells #[.bool n3, .slice A2 us.length c2, .bool n4, .slice B2 vs.length e2] 26)).alloc (.cells #[.bool false, .slice none 0 0, .bool false, .slice none 0 0] 26)
  have p1 := (Quad.new (w.alloc (.cells #[.bool n1, .slice A xs.length c, .bool n2, .slice B ys.length e0] 26)) (.bool n3) (.slice A2 us.length c2) (.bool n4) (.slice B2 vs.length e2)).alloc (.cells #[.bool false, .slice none 0 0, .bool false, .slice none 0 0] 26)
  have p2 := Quad.new ((w.alloc (.cells #[.bool n1, .slice A xs.length c, .bool n2, .slice B ys.length e0] 26)).alloc (.cells #[.bool n3, .slice A2 us.length c2, .bool n4, .slice B2 vs.length e2] 26)) (.bool false) (.slice none 0 0) (.bool false) (.slice none 0 0)
  simp only [World.size_alloc] at p1 p2
  have PX := Hd p0
  have PY := Hd p1
  have PR := Hd p2
  have RX := Hd (hx.below b0)
  have KX := Hd (kx.below b0)
  have RY := Hd (hy.below b0)
  have KY := Hd (ky.below b0)
  have HB := Hd b0
  clear b0 p0 p1 p2 hx kx hy ky
  go_enter Tryz.func137, Tryz.ntmps137
  obtain ⟨W, E⟩ : ∃ W, W = (((w.alloc (.cells #[.bool n1, .slice A xs.length c, .bool n2, .slice B ys.length e0] 26)).alloc (.cells #[.bool n3, .slice A2 us.length c2, .bool n4, .slice B2 vs.length e2] 26)).alloc (.cells #[.bool false, .slice none 0 0, .bool false, .slice none 0 0] 26)) := ⟨_, rfl⟩
  go_upto_region 1 with fail
  rw [← E] at PX PY PR RX KX RY KY  HB ⊢
  clear E
  have HS0 := Hd (show w.heap.size ≤ W.heap.size from HB.out.size)
  obtain ⟨l_x, x0, x1, x2, x3, -, -, -, -⟩ := PX.out.facts
  obtain ⟨l_y, y0, y1, y2, y3, -, -, -, -⟩ := PY.out.facts
  go_wp2_with fail
  refine (H1.out W _ RX.out KX.out RY.out KY.out rfl).mono ?_
  rintro e wx1 ⟨rfl, hb⟩
  clear l_x x0 x1 x2 x3
  clear l_y y0 y1 y2 y3
  have hb := ((Below.refl W.heap.size W).alloc (Nat.le_refl _) (.cells #[.bool n1, .slice A xs.length c, .bool n2, .slice B ys.length e0, .bool n3, .slice A2 us.length c2, .bool n4, .slice B2 vs.length e2] 26)).trans (hb.mono (by simp))
  have HS_wx1 := Hd (show W.heap.size ≤ wx1.heap.size from hb.size)
  have PX := Hd (PX.out.below hb)
  have PY := Hd (PY.out.below hb)
  have PR := Hd (PR.out.below hb)
  have RX := Hd (RX.out.below hb)
  have KX := Hd (KX.out.below hb)
  have RY := Hd (RY.out.below hb)
  have KY := Hd (KY.out.below hb)
  have HB := Hd (belowTo HB.out hb)
  obtain ⟨l_x, x0, x1, x2, x3, -, -, -, -⟩ := PX.out.facts
  obtain ⟨l_y, y0, y1, y2, y3, -, -, -, -⟩ := PY.out.facts
  go_wp2_with fail
  refine (H2.out wx1 RX.out KX.out RY.out KY.out).mono ?_
  rintro e wx2 ⟨v, rfl, hI, hb⟩
  clear l_x x0 x1 x2 x3
  clear l_y y0 y1 y2 y3
  obtain ⟨A7, c7, B7, e7, rfl, -⟩ := hI.form
  have O7 := Hd hI
  clear hI
  have HS_wx2 := Hd (show wx1.heap.size ≤ wx2.heap.size from hb.size)
  have PX := Hd (PX.out.below hb)
  have PY := Hd (PY.out.below hb)
  have PR := Hd (PR.out.below hb)
  have RX := Hd (RX.out.below hb)
  have KX := Hd (KX.out.below hb)
  have RY := Hd (RY.out.below hb)
  have KY := Hd (KY.out.below hb)
  have HB := Hd (belowTo HB.out hb)
  have ha := (Below.refl wx2.heap.size wx2).alloc (Nat.le_refl _) (.cells #[.bool (decide (N < 0)), .slice A7 (natL N.natAbs).length c7, .bool (decide (D < 0)), .slice B7 (natL D.natAbs).length e7] 26)
  have hn := Quad.new wx2 (.bool (decide (N < 0))) (.slice A7 (natL N.natAbs).length c7) (.bool (decide (D < 0))) (.slice B7 (natL D.natAbs).length e7)
  have hz : (wx2.alloc (.cells #[.bool (decide (N < 0)), .slice A7 (natL N.natAbs).length c7, .bool (decide (D < 0)), .slice B7 (natL D.natAbs).length e7] 26)).heap.size = wx2.heap.size + 1 := by simp
  go_upto_region 4 with fail
  obtain ⟨wy3, E⟩ : ∃ W, W = wx2.alloc (.cells #[.bool (decide (N < 0)), .slice A7 (natL N.natAbs).length c7, .bool (decide (D < 0)), .slice B7 (natL D.natAbs).length e7] 26) := ⟨_, rfl⟩
  obtain ⟨q3, hq⟩ : ∃ q, q = wx2.heap.size := ⟨_, rfl⟩
  rw [← E] at ha
  rw [← E, ← hq] at hn hz ⊢
  have HZ_wy3 := Hd (And.intro hq hz)
  have P7 := Hd hn
  have PR := Hd (PR.out.below ha)
  have O7 := Hd (O7.out.below ha)
  have HB := Hd (belowTo HB.out ha)
  clear ha hn hz hq E
  have R7 := Hd O7.out.at_
  obtain ⟨A0, c0, B0, e9, he, r71, r72⟩ := R7.out.form
  simp only [Value.agg.injEq, Array.mk.injEq, List.cons.injEq, Value.slice.injEq, and_true, true_and] at he
  obtain ⟨⟨rfl, rfl⟩, rfl, rfl⟩ := he
  have R71 := Hd r71
  have R72 := Hd r72
  clear R7 r71 r72
  have hsy := Hd (show w.heap.size ≤ wy3.heap.size from HB.out.size)
  obtain ⟨l_z, z0, z1, z2, z3, -, -, -, -⟩ := P7.out.facts
  go_wp2_with fail
  refine (H3.out wy3 A7 B7 c7 e7 R71.out R72.out).mono ?_
  rintro e wx4 ⟨v, rfl, hI, hb⟩
  clear l_z z0 z1 z2 z3
  obtain ⟨A8, c8, B8, e8, rfl, -⟩ := hI.form
  have O8 := Hd hI
  clear hI R71 R72
  have HS_wx4 := Hd (show wy3.heap.size ≤ wx4.heap.size from hb.size)
  have PR := Hd (PR.out.below hb)
  have HB := Hd (belowTo HB.out hb)
  obtain ⟨l_r, r0, r1, r2, r3, fr0, fr1, fr2, fr3⟩ := PR.out.facts
  have HQ := Hd (PR.out.store (.bool (decide (N9 < 0))) (.slice A8 (natL N9.natAbs).length c8) (.bool (decide (D9 < 0))) (.slice B8 (natL D9.natAbs).length e8))
  have HF := Hd (below4 HB.out (show w.heap.size ≤ w.heap.size + 1 + 1 by omega) (.bool (decide (N9 < 0))) (.slice A8 (natL N9.natAbs).length c8) (.bool (decide (D9 < 0))) (.slice B8 (natL D9.natAbs).length e8))
  have HO := Hd (O8.out.quad PR.out (.bool (decide (N9 < 0))) (.slice A8 (natL N9.natAbs).length c8) (.bool (decide (D9 < 0))) (.slice B8 (natL D9.natAbs).length e8))
  go_wp2_with fail
  obtain ⟨_, k0, k1, k2, k3, _⟩ := HQ.out.facts
  exact bodyPost_ret (by simp [results, Tryz.results137, go_sem, k0, k1, k2, k3]) rfl ⟨_, rfl, HO.out.base hsy.out, HF.out⟩

theorem frac_Add_any (n1 n2 n3 n4 : Bool) (A B A2 B2 : Option Addr) (c e0 c2 e2 : Nat) (xs ys us vs : List Nat) (N D K : Int) (C : ∀ (g : Nat) (V : World), Blk V g 98 #[.func (.func 144) #[] #[]] → Raw V A c xs → Raw V B e0 ys → Raw V A2 c2 us → Raw V B2 e2 vs → Calls Tryz.prog 137 #[.func (.func 210) #[] #[.pointer (some ⟨g, 0, none⟩)], .agg #[.bool n1, .slice A xs.length c, .bool n2, .slice B ys.length e0], .agg #[.bool n3, .slice A2 us.length c2, .bool n4, .slice B2 vs.length e2]] V (RetFracOwn2 V.heap.size V N D K)) (w : World) (hx : Raw w A c xs) (kx : Raw w B e0 ys) (hy : Raw w A2 c2 us) (ky : Raw w B2 e2 vs) :
    Calls Tryz.prog 47 #[.agg #[.bool n1, .slice A xs.length c, .bool n2, .slice B ys.length e0], .agg #[.bool n3, .slice A2 us.length c2, .bool n4, .slice B2 vs.length e2]] w (RetFracOwn2 w.heap.size w N D K) := by
  have RX0 := Hd hx
  have KX0 := Hd kx
  have RY0 := Hd hy
  have KY0 := Hd ky
  have H2 := Hd C
  clear C
  have b0 := ((((Below.refl w.heap.size w).alloc (Nat.le_refl _) (.cells #[.bool n1, .slice A xs.length c, .bool n2, .slice B ys.length e0] 26)).alloc (by simp) (.cells #[.bool n3, .slice A2 us.length c2, .bool n4, .slice B2 vs.length e2] 26)).alloc (by simp; omega) (.cells #[.bool false, .slice none 0 0, .bool false, .slice none 0 0] 26))
  have p0 := ((Quad.new w (.bool n1) (.slice A xs.length c) (.bool n2) (.slice B ys.length e0)).alloc (.cells #[.bool n3, .slice A2 us.length c2, .bool n4, .slice B2 vs.length e2] 26)).alloc (.cells #[.bool false, .slice none 0 0, .bool false, .slice none 0 0] 26)
  have p1 := (Quad.new (w.alloc (.cells #[.bool n1, .slice A xs.length c, .bool n2, .slice B ys.length e0] 26)) (.bool n3) (.slice A2 us.length c2) (.bool n4) (.slice B2 vs.length e2)).alloc (.cells #[.bool false, .slice none 0 0, .bool false, .slice none 0 0] 26)
  have p2 := Quad.new ((w.alloc (.cells #[.bool n1, .slice A xs.length c, .bool n2, .slice B ys.length e0] 26)).alloc (.cells #[.bool n3, .slice A2 us.length c2, .bool n4, .slice B2 vs.length e2] 26)) (.bool false) (.slice none 0 0) (.bool false) (.slice none 0 0)
  simp only [World.size_alloc] at p1 p2
  have PX := Hd p0
  have PY := Hd p1
  have PR := Hd p2
  have RX := Hd (hx.below b0)
  have KX := Hd (kx.below b0)
  have RY := Hd (hy.below b0)
  have KY := Hd (ky.below b0)
  have HB := Hd b0
  clear b0 p0 p1 p2 hx kx hy ky
  go_enter Tryz.func47, Tryz.ntmps47
  obtain ⟨W, E⟩ : ∃ W, W = (((w.alloc (.cells #[.bool n1, .slice A xs.length c, .bool n2, .slice B ys.length e0] 26)).alloc (.cells #[.bool n3, .slice A2 us.length c2, .bool n4, .slice B2 vs.length e2] 26)).alloc (.cells #[.bool false, .slice none 0 0, .bool false, .slice none 0 0] 26)) := ⟨_, rfl⟩
  go_upto_region 1 with fail
  rw [← E] at PX PY PR RX KX RY KY  HB ⊢
  clear E
  have HS0 := Hd (show w.heap.size ≤ W.heap.size from HB.out.size)
  have hsz := PR.out.blk.lt
  go_wp2_with fail
  refine wp_region_free [.any false (AlwaysAt 144) [], .val (.agg #[.bool n1, .slice A xs.length c, .bool n2, .slice B ys.length e0]) [], .val (.agg #[.bool n3, .slice A2 us.length c2, .bool n4, .slice B2 vs.length e2]) [], .any false (TupF w.heap.size N D K) [0], .any false (fun u V => FracOwn V w.heap.size u N D) [3], .val (.int .i64 K) [3], .old (w.heap.size + 1 + 1) 26 #[.bool false, .slice none 0 0, .bool false, .slice none 0 0] 0 4 4 [], .val (.int .i64 K) []] (w.heap.size + 1 + 1) W [26] blkInt _ mixedOrders2 (by omega) (Below.refl _ _) (KeptV.refl _ _ _) rfl (by kernel_rfl) (by kernel_rfl) (by kernel_rfl) (by kernel_rfl) (by kernel_rfl) (by kernel_rfl) (by kernel_rfl) (by kernel_rfl) rfl (by simp [oldsF]) ?_ ?_ ?_ ?_
  · simp only [StableF, and_true]
    exact ⟨fun u V V' h k => h.kept k (by decide), fun u V V' h k => h.kept k (by decide), fun u V V' h k => h.kept k (by decide)⟩
  · simp only [OldsF, and_true]
    exact ⟨Nat.le_refl _, PR.out.blk.lt, PR.out.blk, by simp⟩
  · simp (maxSteps := 4000000) [StepsF, DepF, freeAct, fill, pairs]
    repeat' (first | apply And.intro | (intro (u : Value)) | (intro (u : Nat)))
    all_goals try exact ⟨_, _, _, rfl, rfl, rfl, rfl, fracInfo⟩
    all_goals first
    | (intro V hV hK
       have qx : Quad V (w.heap.size) _ _ _ _ := ⟨PX.out.blk.below hV (by omega)⟩
       have qy : Quad V (w.heap.size + 1) _ _ _ _ := ⟨PY.out.blk.below hV (by omega)⟩
       obtain ⟨-, a_x, b_x, c_x, d_x, -, -, -, -⟩ := qx.facts
       obtain ⟨-, a_y, b_y, c_y, d_y, -, -, -, -⟩ := qy.facts
       clear hV hK qx qy
       go_simp
       first
       | exact Below.refl _ _
       | ((with_reducible refine (always_any 144 V).mono ?_); rintro e w' ⟨v, rfl, hv, hb⟩; exact ⟨hv, hb⟩))
    | (intro V hV hK h1
       have hb0 := HB.out.trans (hV.mono (by omega))
       have r1 := RX0.out.below hb0
       have r2 := KX0.out.below hb0
       have r3 := RY0.out.below hb0
       have r4 := KY0.out.below hb0
       have hvs : w.heap.size ≤ V.heap.size := hb0.size
       first
       | (obtain ⟨g, rfl, hg⟩ := h1.form
          clear hV hK h1 hb0
          go_simp
          (with_reducible refine (H2.out g V hg r1 r2 r3 r4).mono ?_)
          rintro e w' ⟨v, rfl, hv, hb⟩
          exact ⟨⟨v, rfl, hv.base hvs⟩, hb⟩)
       | (obtain ⟨v, rfl, hv⟩ := h1.form
          clear hV hK h1 hb0
          go_simp
          first
          | exact ⟨hv, Below.refl _ _⟩
          | exact Below.refl _ _))
    | exact fun _ _ _ (h : FracOwn _ _ _ _ _) => h.cells
  · simp [EndF, FactsF, freeAct, fill, pairs]
    intro u1 u2 u3 V hV hK h1 h2 h3 bq _ _ _
    have HF := Hd h3
    obtain ⟨A6, c6, A7, c7, rfl, -⟩ := h3.form
    simp [setAll, Value.cells] at bq
    have k0 := bq.cell 0
    have k1 := bq.cell 1
    have k2 := bq.cell 2
    have k3 := bq.cell 3
    simp at k0 k1 k2 k3
    have HB9 := Hd (HB.out.trans (hV.mono (by omega)))
    clear h1 h2 h3 hV hK bq
    go_wp2_with fail
    exact bodyPost_ret (by simp [results, Tryz.results47, go_sem, k0, k1, k2, k3]) rfl ⟨_, rfl, HF.out, HB9.out⟩
theorem frac_Add_good (n d m f : Int) (A B A2 B2 : Option Addr) (c e0 c2 e2 : Nat) (w : World) (hx : Raw w A c (natL n.natAbs)) (kx : Raw w B e0 (natL d.natAbs)) (hy : Raw w A2 c2 (natL m.natAbs)) (ky : Raw w B2 e2 (natL f.natAbs)) (f1 : Fine n d) (f2 : Fine m f) :
    Calls Tryz.prog 47 #[.agg #[.bool (decide (n < 0)), .slice A (natL n.natAbs).length c, .bool (decide (d < 0)), .slice B (natL d.natAbs).length e0], .agg #[.bool (decide (m < 0)), .slice A2 (natL m.natAbs).length c2, .bool (decide (f < 0)), .slice B2 (natL f.natAbs).length e2]] w (RetFracOwn2 w.heap.size w (ansN (addN n d m f) (addD n d m f)) (ansD (addN n d m f) (addD n d m f)) (ansK (addN n d m f) (addD n d m f))) := by
  have hl1 : lz n ≤ 2048 := f1.num
  have hl2 : lz d ≤ 2048 := f1.den
  have hl3 : lz m ≤ 2048 := f2.num
  have hl4 : lz f ≤ 2048 := f2.den
  have hp1 := f1.pos
  have hp2 := f2.pos
  exact frac_Add_any _ _ _ _ A B A2 B2 c e0 c2 e2 _ _ _ _ _ _ _ (fun g V hg a1 a2 a3 a4 => do_always 144 g _ _ _ _ A B A2 B2 c e0 c2 e2 _ _ _ _ _ _ (fun V hg a1 a2 a3 a4 => clos_add _ _ _ _ A B A2 B2 c e0 c2 e2 _ _ _ _ _ _ (fun V a1 a2 a3 a4 => ratio_Plus n d m f A B A2 B2 c e0 c2 e2 V a1 a2 a3 a4 (by omega) (by omega) (by omega) (by omega) (by omega) (by omega)) g V hg a1 a2 a3 a4) V a1 a2 a3 a4 (by rw [f1.chk, f2.chk]; rfl) hg) w hx kx hy ky

theorem frac_Sub_any (n1 n2 n3 n4 : Bool) (A B A2 B2 : Option Addr) (c e0 c2 e2 : Nat) (xs ys us vs : List Nat) (N D K : Int) (C : ∀ (g : Nat) (V : World), Blk V g 98 #[.func (.func 143) #[] #[]] → Raw V A c xs → Raw V B e0 ys → Raw V A2 c2 us → Raw V B2 e2 vs → Calls Tryz.prog 137 #[.func (.func 210) #[] #[.pointer (some ⟨g, 0, none⟩)], .agg #[.bool n1, .slice A xs.length c, .bool n2, .slice B ys.length e0], .agg #[.bool n3, .slice A2 us.length c2, .bool n4, .slice B2 vs.length e2]] V (RetFracOwn2 V.heap.size V N D K)) (w : World) (hx : Raw w A c xs) (kx : Raw w B e0 ys) (hy : Raw w A2 c2 us) (ky : Raw w B2 e2 vs) :
    Calls Tryz.prog 46 #[.agg #[.bool n1, .slice A xs.length c, .bool n2, .slice B ys.length e0], .agg #[.bool n3, .slice A2 us.length c2, .bool n4, .slice B2 vs.length e2]] w (RetFracOwn2 w.heap.size w N D K) := by
  have RX0 := Hd hx
  have KX0 := Hd kx
  have RY0 := Hd hy
  have KY0 := Hd ky
  have H2 := Hd C
  clear C
  have b0 := ((((Below.refl w.heap.size w).alloc (Nat.le_refl _) (.cells #[.bool n1, .slice A xs.length c, .bool n2, .slice B ys.length e0] 26)).alloc (by simp) (.cells #[.bool n3, .slice A2 us.length c2, .bool n4, .slice B2 vs.length e2] 26)).alloc (by simp; omega) (.cells #[.bool false, .slice none 0 0, .bool false, .slice none 0 0] 26))
  have p0 := ((Quad.new w (.bool n1) (.slice A xs.length c) (.bool n2) (.slice B ys.length e0)).alloc (.cells #[.bool n3, .slice A2 us.length c2, .bool n4, .slice B2 vs.length e2] 26)).alloc (.cells #[.bool false, .slice none 0 0, .bool false, .slice none 0 0] 26)
  have p1 := (Quad.new (w.alloc (.cells #[.bool n1, .slice A xs.length c, .bool n2, .slice B ys.length e0] 26)) (.bool n3) (.slice A2 us.length c2) (.bool n4) (.slice B2 vs.length e2)).alloc (.cells #[.bool false, .slice none 0 0, .bool false, .slice none 0 0] 26)
  have p2 := Quad.new ((w.alloc (.cells #[.bool n1, .slice A xs.length c, .bool n2, .slice B ys.length e0] 26)).alloc (.cells #[.bool n3, .slice A2 us.length c2, .bool n4, .slice B2 vs.length e2] 26)) (.bool false) (.slice none 0 0) (.bool false) (.slice none 0 0)
  simp only [World.size_alloc] at p1 p2
  have PX := Hd p0
  have PY := Hd p1
  have PR := Hd p2
  have RX := Hd (hx.below b0)
  have KX := Hd (kx.below b0)
  have RY := Hd (hy.below b0)
  have KY := Hd (ky.below b0)
  have HB := Hd b0
  clear b0 p0 p1 p2 hx kx hy ky
  go_enter Tryz.func46, Tryz.ntmps46
  obtain ⟨W, E⟩ : ∃ W, W = (((w.alloc (.cells #[.bool n1, .slice A xs.length c, .bool n2, .slice B ys.length e0] 26)).alloc (.cells #[.bool n3, .slice A2 us.length c2, .bool n4, .slice B2 vs.length e2] 26)).alloc (.cells #[.bool false, .slice none 0 0, .bool false, .slice none 0 0] 26)) := ⟨_, rfl⟩
  go_upto_region 1 with fail
  rw [← E] at PX PY PR RX KX RY KY  HB ⊢
  clear E
  have HS0 := Hd (show w.heap.size ≤ W.heap.size from HB.out.size)
  have hsz := PR.out.blk.lt
  go_wp2_with fail
  refine wp_region_free [.any false (AlwaysAt 143) [], .val (.agg #[.bool n1, .slice A xs.length c, .bool n2, .slice B ys.length e0]) [], .val (.agg #[.bool n3, .slice A2 us.length c2, .bool n4, .slice B2 vs.length e2]) [], .any false (TupF w.heap.size N D K) [0], .any false (fun u V => FracOwn V w.heap.size u N D) [3], .val (.int .i64 K) [3], .old (w.heap.size + 1 + 1) 26 #[.bool false, .slice none 0 0, .bool false, .slice none 0 0] 0 4 4 [], .val (.int .i64 K) []] (w.heap.size + 1 + 1) W [26] blkInt _ mixedOrders2 (by omega) (Below.refl _ _) (KeptV.refl _ _ _) rfl (by kernel_rfl) (by kernel_rfl) (by kernel_rfl) (by kernel_rfl) (by kernel_rfl) (by kernel_rfl) (by kernel_rfl) (by kernel_rfl) rfl (by simp [oldsF]) ?_ ?_ ?_ ?_
  · simp only [StableF, and_true]
    exact ⟨fun u V V' h k => h.kept k (by decide), fun u V V' h k => h.kept k (by decide), fun u V V' h k => h.kept k (by decide)⟩
  · simp only [OldsF, and_true]
    exact ⟨Nat.le_refl _, PR.out.blk.lt, PR.out.blk, by simp⟩
  · simp (maxSteps := 4000000) [StepsF, DepF, freeAct, fill, pairs]
    repeat' (first | apply And.intro | (intro (u : Value)) | (intro (u : Nat)))
    all_goals try exact ⟨_, _, _, rfl, rfl, rfl, rfl, fracInfo⟩
    all_goals first
    | (intro V hV hK
       have qx : Quad V (w.heap.size) _ _ _ _ := ⟨PX.out.blk.below hV (by omega)⟩
       have qy : Quad V (w.heap.size + 1) _ _ _ _ := ⟨PY.out.blk.below hV (by omega)⟩
       obtain ⟨-, a_x, b_x, c_x, d_x, -, -, -, -⟩ := qx.facts
       obtain ⟨-, a_y, b_y, c_y, d_y, -, -, -, -⟩ := qy.facts
       clear hV hK qx qy
       go_simp
       first
       | exact Below.refl _ _
       | ((with_reducible refine (always_any 143 V).mono ?_); rintro e w' ⟨v, rfl, hv, hb⟩; exact ⟨hv, hb⟩))
    | (intro V hV hK h1
       have hb0 := HB.out.trans (hV.mono (by omega))
       have r1 := RX0.out.below hb0
       have r2 := KX0.out.below hb0
       have r3 := RY0.out.below hb0
       have r4 := KY0.out.below hb0
       have hvs : w.heap.size ≤ V.heap.size := hb0.size
       first
       | (obtain ⟨g, rfl, hg⟩ := h1.form
          clear hV hK h1 hb0
          go_simp
          (with_reducible refine (H2.out g V hg r1 r2 r3 r4).mono ?_)
          rintro e w' ⟨v, rfl, hv, hb⟩
          exact ⟨⟨v, rfl, hv.base hvs⟩, hb⟩)
       | (obtain ⟨v, rfl, hv⟩ := h1.form
          clear hV hK h1 hb0
          go_simp
          first
          | exact ⟨hv, Below.refl _ _⟩
          | exact Below.refl _ _))
    | exact fun _ _ _ (h : FracOwn _ _ _ _ _) => h.cells
  · simp [EndF, FactsF, freeAct, fill, pairs]
    intro u1 u2 u3 V hV hK h1 h2 h3 bq _ _ _
    have HF := Hd h3
    obtain ⟨A6, c6, A7, c7, rfl, -⟩ := h3.form
    simp [setAll, Value.cells] at bq
    have k0 := bq.cell 0
    have k1 := bq.cell 1
    have k2 := bq.cell 2
    have k3 := bq.cell 3
    simp at k0 k1 k2 k3
    have HB9 := Hd (HB.out.trans (hV.mono (by omega)))
    clear h1 h2 h3 hV hK bq
    go_wp2_with fail
    exact bodyPost_ret (by simp [results, Tryz.results46, go_sem, k0, k1, k2, k3]) rfl ⟨_, rfl, HF.out, HB9.out⟩
theorem frac_Sub_good (n d m f : Int) (A B A2 B2 : Option Addr) (c e0 c2 e2 : Nat) (w : World) (hx : Raw w A c (natL n.natAbs)) (kx : Raw w B e0 (natL d.natAbs)) (hy : Raw w A2 c2 (natL m.natAbs)) (ky : Raw w B2 e2 (natL f.natAbs)) (f1 : Fine n d) (f2 : Fine m f) :
    Calls Tryz.prog 46 #[.agg #[.bool (decide (n < 0)), .slice A (natL n.natAbs).length c, .bool (decide (d < 0)), .slice B (natL d.natAbs).length e0], .agg #[.bool (decide (m < 0)), .slice A2 (natL m.natAbs).length c2, .bool (decide (f < 0)), .slice B2 (natL f.natAbs).length e2]] w (RetFracOwn2 w.heap.size w (ansN (subN n d m f) (subD n d m f)) (ansD (subN n d m f) (subD n d m f)) (ansK (subN n d m f) (subD n d m f))) := by
  have hl1 : lz n ≤ 2048 := f1.num
  have hl2 : lz d ≤ 2048 := f1.den
  have hl3 : lz m ≤ 2048 := f2.num
  have hl4 : lz f ≤ 2048 := f2.den
  have hp1 := f1.pos
  have hp2 := f2.pos
  exact frac_Sub_any _ _ _ _ A B A2 B2 c e0 c2 e2 _ _ _ _ _ _ _ (fun g V hg a1 a2 a3 a4 => do_always 143 g _ _ _ _ A B A2 B2 c e0 c2 e2 _ _ _ _ _ _ (fun V hg a1 a2 a3 a4 => clos_sub _ _ _ _ A B A2 B2 c e0 c2 e2 _ _ _ _ _ _ (fun V a1 a2 a3 a4 => ratio_Minus n d m f A B A2 B2 c e0 c2 e2 V a1 a2 a3 a4 (by omega) (by omega) (by omega) (by omega) (by omega) (by omega)) g V hg a1 a2 a3 a4) V a1 a2 a3 a4 (by rw [f1.chk, f2.chk]; rfl) hg) w hx kx hy ky

theorem frac_Mul_any (n1 n2 n3 n4 : Bool) (A B A2 B2 : Option Addr) (c e0 c2 e2 : Nat) (xs ys us vs : List Nat) (N D K : Int) (C : ∀ (g : Nat) (V : World), Blk V g 98 #[.func (.func 136) #[] #[]] → Raw V A c xs → Raw V B e0 ys → Raw V A2 c2 us → Raw V B2 e2 vs → Calls Tryz.prog 137 #[.func (.func 210) #[] #[.pointer (some ⟨g, 0, none⟩)], .agg #[.bool n1, .slice A xs.length c, .bool n2, .slice B ys.length e0], .agg #[.bool n3, .slice A2 us.length c2, .bool n4, .slice B2 vs.length e2]] V (RetFracOwn2 V.heap.size V N D K)) (w : World) (hx : Raw w A c xs) (kx : Raw w B e0 ys) (hy : Raw w A2 c2 us) (ky : Raw w B2 e2 vs) :
    Calls Tryz.prog 41 #[.agg #[.bool n1, .slice A xs.length c, .bool n2, .slice B ys.length e0], .agg #[.bool n3, .slice A2 us.length c2, .bool n4, .slice B2 vs.length e2]] w (RetFracOwn2 w.heap.size w N D K) := by
  have RX0 := Hd hx
  have KX0 := Hd kx
  have RY0 := Hd hy
  have KY0 := Hd ky
  have H2 := Hd C
  clear C
  have b0 := ((((Below.refl w.heap.size w).alloc (Nat.le_refl _) (.cells #[.bool n1, .slice A xs.length c, .bool n2, .slice B ys.length e0] 26)).alloc (by simp) (.cells #[.bool n3, .slice A2 us.length c2, .bool n4, .slice B2 vs.length e2] 26)).alloc (by simp; omega) (.cells #[.bool false, .slice none 0 0, .bool false, .slice none 0 0] 26))
  have p0 := ((Quad.new w (.bool n1) (.slice A xs.length c) (.bool n2) (.slice B ys.length e0)).alloc (.cells #[.bool n3, .slice A2 us.length c2, .bool n4, .slice B2 vs.length e2] 26)).alloc (.cells #[.bool false, .slice none 0 0, .bool false, .slice none 0 0] 26)
  have p1 := (Quad.new (w.alloc (.cells #[.bool n1, .slice A xs.length c, .bool n2, .slice B ys.length e0] 26)) (.bool n3) (.slice A2 us.length c2) (.bool n4) (.slice B2 vs.length e2)).alloc (.cells #[.bool false, .slice none 0 0, .bool false, .slice none 0 0] 26)
  have p2 := Quad.new ((w.alloc (.cells #[.bool n1, .slice A xs.length c, .bool n2, .slice B ys.length e0] 26)).alloc (.cells #[.bool n3, .slice A2 us.length c2, .bool n4, .slice B2 vs.length e2] 26)) (.bool false) (.slice none 0 0) (.bool false) (.slice none 0 0)
  simp only [World.size_alloc] at p1 p2
  have PX := Hd p0
  have PY := Hd p1
  have PR := Hd p2
  have RX := Hd (hx.below b0)
  have KX := Hd (kx.below b0)
  have RY := Hd (hy.below b0)
  have KY := Hd (ky.below b0)
  have HB := Hd b0
  clear b0 p0 p1 p2 hx kx hy ky
  go_enter Tryz.func41, Tryz.ntmps41
  obtain ⟨W, E⟩ : ∃ W, W = (((w.alloc (.cells #[.bool n1, .slice A xs.length c, .bool n2, .slice B ys.length e0] 26)).alloc (.cells #[.bool n3, .slice A2 us.length c2, .bool n4, .slice B2 vs.length e2] 26)).alloc (.cells #[.bool false, .slice none 0 0, .bool false, .slice none 0 0] 26)) := ⟨_, rfl⟩
  go_upto_region 1 with fail
  rw [← E] at PX PY PR RX KX RY KY  HB ⊢
  clear E
  have HS0 := Hd (show w.heap.size ≤ W.heap.size from HB.out.size)
  have hsz := PR.out.blk.lt
  go_wp2_with fail
  refine wp_region_free [.any false (AlwaysAt 136) [], .val (.agg #[.bool n1, .slice A xs.length c, .bool n2, .slice B ys.length e0]) [], .val (.agg #[.bool n3, .slice A2 us.length c2, .bool n4, .slice B2 vs.length e2]) [], .any false (TupF w.heap.size N D K) [0], .any false (fun u V => FracOwn V w.heap.size u N D) [3], .val (.int .i64 K) [3], .old (w.heap.size + 1 + 1) 26 #[.bool false, .slice none 0 0, .bool false, .slice none 0 0] 0 4 4 [], .val (.int .i64 K) []] (w.heap.size + 1 + 1) W [26] blkInt _ mixedOrders2 (by omega) (Below.refl _ _) (KeptV.refl _ _ _) rfl (by kernel_rfl) (by kernel_rfl) (by kernel_rfl) (by kernel_rfl) (by kernel_rfl) (by kernel_rfl) (by kernel_rfl) (by kernel_rfl) rfl (by simp [oldsF]) ?_ ?_ ?_ ?_
  · simp only [StableF, and_true]
    exact ⟨fun u V V' h k => h.kept k (by decide), fun u V V' h k => h.kept k (by decide), fun u V V' h k => h.kept k (by decide)⟩
  · simp only [OldsF, and_true]
    exact ⟨Nat.le_refl _, PR.out.blk.lt, PR.out.blk, by simp⟩
  · simp (maxSteps := 4000000) [StepsF, DepF, freeAct, fill, pairs]
    repeat' (first | apply And.intro | (intro (u : Value)) | (intro (u : Nat)))
    all_goals try exact ⟨_, _, _, rfl, rfl, rfl, rfl, fracInfo⟩
    all_goals first
    | (intro V hV hK
       have qx : Quad V (w.heap.size) _ _ _ _ := ⟨PX.out.blk.below hV (by omega)⟩
       have qy : Quad V (w.heap.size + 1) _ _ _ _ := ⟨PY.out.blk.below hV (by omega)⟩
       obtain ⟨-, a_x, b_x, c_x, d_x, -, -, -, -⟩ := qx.facts
       obtain ⟨-, a_y, b_y, c_y, d_y, -, -, -, -⟩ := qy.facts
       clear hV hK qx qy
       go_simp
       first
       | exact Below.refl _ _
       | ((with_reducible refine (always_any 136 V).mono ?_); rintro e w' ⟨v, rfl, hv, hb⟩; exact ⟨hv, hb⟩))
    | (intro V hV hK h1
       have hb0 := HB.out.trans (hV.mono (by omega))
       have r1 := RX0.out.below hb0
       have r2 := KX0.out.below hb0
       have r3 := RY0.out.below hb0
       have r4 := KY0.out.below hb0
       have hvs : w.heap.size ≤ V.heap.size := hb0.size
       first
       | (obtain ⟨g, rfl, hg⟩ := h1.form
          clear hV hK h1 hb0
          go_simp
          (with_reducible refine (H2.out g V hg r1 r2 r3 r4).mono ?_)
          rintro e w' ⟨v, rfl, hv, hb⟩
          exact ⟨⟨v, rfl, hv.base hvs⟩, hb⟩)
       | (obtain ⟨v, rfl, hv⟩ := h1.form
          clear hV hK h1 hb0
          go_simp
          first
          | exact ⟨hv, Below.refl _ _⟩
          | exact Below.refl _ _))
    | exact fun _ _ _ (h : FracOwn _ _ _ _ _) => h.cells
  · simp [EndF, FactsF, freeAct, fill, pairs]
    intro u1 u2 u3 V hV hK h1 h2 h3 bq _ _ _
    have HF := Hd h3
    obtain ⟨A6, c6, A7, c7, rfl, -⟩ := h3.form
    simp [setAll, Value.cells] at bq
    have k0 := bq.cell 0
    have k1 := bq.cell 1
    have k2 := bq.cell 2
    have k3 := bq.cell 3
    simp at k0 k1 k2 k3
    have HB9 := Hd (HB.out.trans (hV.mono (by omega)))
    clear h1 h2 h3 hV hK bq
    go_wp2_with fail
    exact bodyPost_ret (by simp [results, Tryz.results41, go_sem, k0, k1, k2, k3]) rfl ⟨_, rfl, HF.out, HB9.out⟩
theorem frac_Mul_good (n d m f : Int) (A B A2 B2 : Option Addr) (c e0 c2 e2 : Nat) (w : World) (hx : Raw w A c (natL n.natAbs)) (kx : Raw w B e0 (natL d.natAbs)) (hy : Raw w A2 c2 (natL m.natAbs)) (ky : Raw w B2 e2 (natL f.natAbs)) (f1 : Fine n d) (f2 : Fine m f) :
    Calls Tryz.prog 41 #[.agg #[.bool (decide (n < 0)), .slice A (natL n.natAbs).length c, .bool (decide (d < 0)), .slice B (natL d.natAbs).length e0], .agg #[.bool (decide (m < 0)), .slice A2 (natL m.natAbs).length c2, .bool (decide (f < 0)), .slice B2 (natL f.natAbs).length e2]] w (RetFracOwn2 w.heap.size w (ansN (mulN n d m f) (mulD n d m f)) (ansD (mulN n d m f) (mulD n d m f)) (ansK (mulN n d m f) (mulD n d m f))) := by
  have hl1 : lz n ≤ 2048 := f1.num
  have hl2 : lz d ≤ 2048 := f1.den
  have hl3 : lz m ≤ 2048 := f2.num
  have hl4 : lz f ≤ 2048 := f2.den
  have hp1 := f1.pos
  have hp2 := f2.pos
  exact frac_Mul_any _ _ _ _ A B A2 B2 c e0 c2 e2 _ _ _ _ _ _ _ (fun g V hg a1 a2 a3 a4 => do_always 136 g _ _ _ _ A B A2 B2 c e0 c2 e2 _ _ _ _ _ _ (fun V hg a1 a2 a3 a4 => clos_mul _ _ _ _ A B A2 B2 c e0 c2 e2 _ _ _ _ _ _ (fun V a1 a2 a3 a4 => ratio_Times n d m f A B A2 B2 c e0 c2 e2 V a1 a2 a3 a4 (by omega) (by omega) (by omega) (by omega) (by omega) (by omega)) g V hg a1 a2 a3 a4) V a1 a2 a3 a4 (by rw [f1.chk, f2.chk]; rfl) hg) w hx kx hy ky

theorem clos_quo (n d m f : Int) (A B A2 B2 : Option Addr) (c e0 c2 e2 : Nat) (w : World) (hx : Raw w A c (natL n.natAbs)) (kx : Raw w B e0 (natL d.natAbs)) (hy : Raw w A2 c2 (natL m.natAbs)) (ky : Raw w B2 e2 (natL f.natAbs)) (hl1 : lz n ≤ 10000) (hl2 : lz d ≤ 10000) (hl3 : lz m ≤ 10000) (hl4 : lz f ≤ 10000) (hd0 : d ≠ 0) (hm0 : m ≠ 0) :
    Calls Tryz.prog 145 #[.agg #[.bool (decide (n < 0)), .slice A (natL n.natAbs).length c, .bool (decide (d < 0)), .slice B (natL d.natAbs).length e0], .agg #[.bool (decide (m < 0)), .slice A2 (natL m.natAbs).length c2, .bool (decide (f < 0)), .slice B2 (natL f.natAbs).length e2]] w (RetFracB w (quoN n d m f) (quoD n d m f) true) := by
  obtain ⟨sg, hsg⟩ : ∃ k : Int, k = m.sign := ⟨_, rfl⟩
  have H2 := Hd (fun (V : World) (h : Raw V A2 c2 (natL m.natAbs)) => ratio_Sign m sg f A2 B2 c2 e2 V h hsg)
  have hs0 : sg ≠ 0 := by rw [hsg]; intro e; exact hm0 (Int.sign_eq_zero_iff_zero.1 e)
  have hs1 : (sg == 0) = false := by simpa using hs0
  have C3 := fun (V : World) (a1 : Raw V A c (natL n.natAbs)) (a2 : Raw V B e0 (natL d.natAbs)) (a3 : Raw V A2 c2 (natL m.natAbs)) (a4 : Raw V B2 e2 (natL f.natAbs)) => ratio_Over n d m f A B A2 B2 c e0 c2 e2 V a1 a2 a3 a4 hl1 hl2 hl3 hl4 hd0 hm0
  obtain ⟨N, hN⟩ : ∃ k : Int, k = quoN n d m f := ⟨_, rfl⟩
  obtain ⟨D, hD⟩ : ∃ k : Int, k = quoD n d m f := ⟨_, rfl⟩
  rw [← hN, ← hD] at C3 ⊢
  have H3 := Hd C3
  clear C3 hN hD hl1 hl2 hl3 hl4 hd0 hm0 hsg
  have b0 := ((((Below.refl w.heap.size w).alloc (Nat.le_refl _) (.cells #[.bool (decide (n < 0)), .slice A (natL n.natAbs).length c, .bool (decide (d < 0)), .slice B (natL d.natAbs).length e0] 26)).alloc (by simp) (.cells #[.bool (decide (m < 0)), .slice A2 (natL m.natAbs).length c2, .bool (decide (f < 0)), .slice B2 (natL f.natAbs).length e2] 26)).alloc (by simp; omega) (.cells #[.bool false, .slice none 0 0, .bool false, .slice none 0 0] 26))
  have p0 := ((Quad.new w (.bool (decide (n < 0))) (.slice A (natL n.natAbs).length c) (.bool (decide (d < 0))) (.slice B (natL d.natAbs).length e0)).alloc (.cells #[.bool (decide (m < 0)), .slice A2 (natL m.natAbs).length c2, .bool (decide (f < 0)), .slice B2 (natL f.natAbs).length e2] 26)).alloc (.cells #[.bool false, .slice none 0 0, .bool false, .slice none 0 0] 26)
  have p1 := (Quad.new (w.alloc (.cells #[.bool (decide (n < 0)), .slice A (natL n.natAbs).length c, .bool (decide (d < 0)), .slice B (natL d.natAbs).length e0] 26)) (.bool (decide (m < 0))) (.slice A2 (natL m.natAbs).length c2) (.bool (decide (f < 0))) (.slice B2 (natL f.natAbs).length e2)).alloc (.cells #[.bool false, .slice none 0 0, .bool false, .slice none 0 0] 26)
  have p2 := Quad.new ((w.alloc (.cells #[.bool (decide (n < 0)), .slice A (natL n.natAbs).length c, .bool (decide (d < 0)), .slice B (natL d.natAbs).length e0] 26)).alloc (.cells #[.bool (decide (m < 0)), .slice A2 (natL m.natAbs).length c2, .bool (decide (f < 0)), .slice B2 (natL f.natAbs).length e2] 26)) (.bool false) (.slice none 0 0) (.bool false) (.slice none 0 0)
  simp only [World.size_alloc] at p1 p2
  have PX := Hd p0
  have PY := Hd p1
  have PR := Hd p2
  have RX := Hd (hx.below b0)
  have KX := Hd (kx.below b0)
  have RY := Hd (hy.below b0)
  have KY := Hd (ky.below b0)
  have HB := Hd b0
  clear b0 p0 p1 p2 hx kx hy ky
  go_enter Tryz.func145, Tryz.ntmps145
  obtain ⟨W, E⟩ : ∃ W, W = (((w.alloc (.cells #[.bool (decide (n < 0)), .slice A (natL n.natAbs).length c, .bool (decide (d < 0)), .slice B (natL d.natAbs).length e0] 26)).alloc (.cells #[.bool (decide (m < 0)), .slice A2 (natL m.natAbs).length c2, .bool (decide (f < 0)), .slice B2 (natL f.natAbs).length e2] 26)).alloc (.cells #[.bool false, .slice none 0 0, .bool false, .slice none 0 0] 26)) := ⟨_, rfl⟩
  go_upto_region 1 with fail
  rw [← E] at PX PY PR RX KX RY KY  HB ⊢
  clear E
  have HS0 := Hd (show w.heap.size ≤ W.heap.size from HB.out.size)
  obtain ⟨l_y, y0, y1, y2, y3, -, -, -, -⟩ := PY.out.facts
  go_wp2_with fail
  refine (H2.out W RY.out).mono ?_
  rintro e wx1 ⟨rfl, hb⟩
  clear l_y y0 y1 y2 y3
  have HS_wx1 := Hd (show W.heap.size ≤ wx1.heap.size from hb.size)
  have PX := Hd (PX.out.below hb)
  have PY := Hd (PY.out.below hb)
  have PR := Hd (PR.out.below hb)
  have RX := Hd (RX.out.below hb)
  have KX := Hd (KX.out.below hb)
  have RY := Hd (RY.out.below hb)
  have KY := Hd (KY.out.below hb)
  have HB := Hd (belowTo HB.out hb)
  obtain ⟨l_x, x0, x1, x2, x3, -, -, -, -⟩ := PX.out.facts
  obtain ⟨l_y, y0, y1, y2, y3, -, -, -, -⟩ := PY.out.facts
  go_wp2_with fail
  refine (H3.out wx1 RX.out KX.out RY.out KY.out).mono ?_
  rintro e wx2 ⟨v, rfl, hI, hb⟩
  clear l_x x0 x1 x2 x3
  clear l_y y0 y1 y2 y3
  obtain ⟨A7, c7, B7, e7, rfl, -⟩ := hI.form
  have O7 := Hd hI
  clear hI
  have HS_wx2 := Hd (show wx1.heap.size ≤ wx2.heap.size from hb.size)
  have PX := Hd (PX.out.below hb)
  have PY := Hd (PY.out.below hb)
  have PR := Hd (PR.out.below hb)
  have RX := Hd (RX.out.below hb)
  have KX := Hd (KX.out.below hb)
  have RY := Hd (RY.out.below hb)
  have KY := Hd (KY.out.below hb)
  have HB := Hd (belowTo HB.out hb)
  obtain ⟨l_r, r0, r1, r2, r3, fr0, fr1, fr2, fr3⟩ := PR.out.facts
  have HQ := Hd (PR.out.store (.bool (decide (N < 0))) (.slice A7 (natL N.natAbs).length c7) (.bool (decide (D < 0))) (.slice B7 (natL D.natAbs).length e7))
  have HF := Hd (below4 HB.out (show w.heap.size ≤ w.heap.size + 1 + 1 by omega) (.bool (decide (N < 0))) (.slice A7 (natL N.natAbs).length c7) (.bool (decide (D < 0))) (.slice B7 (natL D.natAbs).length e7))
  have HO := Hd (O7.out.quad PR.out (.bool (decide (N < 0))) (.slice A7 (natL N.natAbs).length c7) (.bool (decide (D < 0))) (.slice B7 (natL D.natAbs).length e7))
  go_wp2_with fail
  obtain ⟨_, k0, k1, k2, k3, _⟩ := HQ.out.facts
  exact bodyPost_ret (by simp [results, Tryz.results145, go_sem, k0, k1, k2, k3]) rfl ⟨_, rfl, HO.out, HF.out⟩

theorem frac_Quo_any (n1 n2 n3 n4 : Bool) (A B A2 B2 : Option Addr) (c e0 c2 e2 : Nat) (xs ys us vs : List Nat) (N D K : Int) (C : ∀ (V : World), Raw V A c xs → Raw V B e0 ys → Raw V A2 c2 us → Raw V B2 e2 vs → Calls Tryz.prog 137 #[.func (.func 145) #[] #[], .agg #[.bool n1, .slice A xs.length c, .bool n2, .slice B ys.length e0], .agg #[.bool n3, .slice A2 us.length c2, .bool n4, .slice B2 vs.length e2]] V (RetFracOwn2 V.heap.size V N D K)) (w : World) (hx : Raw w A c xs) (kx : Raw w B e0 ys) (hy : Raw w A2 c2 us) (ky : Raw w B2 e2 vs) :
    Calls Tryz.prog 48 #[.agg #[.bool n1, .slice A xs.length c, .bool n2, .slice B ys.length e0], .agg #[.bool n3, .slice A2 us.length c2, .bool n4, .slice B2 vs.length e2]] w (RetFracOwn2 w.heap.size w N D K) := by
  have H2 := Hd C
  clear C
  have b0 := ((((Below.refl w.heap.size w).alloc (Nat.le_refl _) (.cells #[.bool n1, .slice A xs.length c, .bool n2, .slice B ys.length e0] 26)).alloc (by simp) (.cells #[.bool n3, .slice A2 us.length c2, .bool n4, .slice B2 vs.length e2] 26)).alloc (by simp; omega) (.cells #[.bool false, .slice none 0 0, .bool false, .slice none 0 0] 26))
  have p0 := ((Quad.new w (.bool n1) (.slice A xs.length c) (.bool n2) (.slice B ys.length e0)).alloc (.cells #[.bool n3, .slice A2 us.length c2, .bool n4, .slice B2 vs.length e2] 26)).alloc (.cells #[.bool false, .slice none 0 0, .bool false, .slice none 0 0] 26)
  have p1 := (Quad.new (w.alloc (.cells #[.bool n1, .slice A xs.length c, .bool n2, .slice B ys.length e0] 26)) (.bool n3) (.slice A2 us.length c2) (.bool n4) (.slice B2 vs.length e2)).alloc (.cells #[.bool false, .slice none 0 0, .bool false, .slice none 0 0] 26)
  have p2 := Quad.new ((w.alloc (.cells #[.bool n1, .slice A xs.length c, .bool n2, .slice B ys.length e0] 26)).alloc (.cells #[.bool n3, .slice A2 us.length c2, .bool n4, .slice B2 vs.length e2] 26)) (.bool false) (.slice none 0 0) (.bool false) (.slice none 0 0)
  simp only [World.size_alloc] at p1 p2
  have PX := Hd p0
  have PY := Hd p1
  have PR := Hd p2
  have RX := Hd (hx.below b0)
  have KX := Hd (kx.below b0)
  have RY := Hd (hy.below b0)
  have KY := Hd (ky.below b0)
  have HB := Hd b0
  clear b0 p0 p1 p2 hx kx hy ky
  go_enter Tryz.func48, Tryz.ntmps48
  obtain ⟨W, E⟩ : ∃ W, W = (((w.alloc (.cells #[.bool n1, .slice A xs.length c, .bool n2, .slice B ys.length e0] 26)).alloc (.cells #[.bool n3, .slice A2 us.length c2, .bool n4, .slice B2 vs.length e2] 26)).alloc (.cells #[.bool false, .slice none 0 0, .bool false, .slice none 0 0] 26)) := ⟨_, rfl⟩
  go_upto_region 1 with fail
  rw [← E] at PX PY PR RX KX RY KY  HB ⊢
  clear E
  have HS0 := Hd (show w.heap.size ≤ W.heap.size from HB.out.size)
  obtain ⟨l_x, x0, x1, x2, x3, -, -, -, -⟩ := PX.out.facts
  obtain ⟨l_y, y0, y1, y2, y3, -, -, -, -⟩ := PY.out.facts
  go_wp2_with fail
  refine (H2.out W RX.out KX.out RY.out KY.out).mono ?_
  rintro e wx1 ⟨v, rfl, hI, hb⟩
  clear l_x x0 x1 x2 x3
  clear l_y y0 y1 y2 y3
  obtain ⟨A8, c8, B8, e8, rfl, -⟩ := hI.form
  have O8 := Hd hI
  clear hI
  have HS_wx1 := Hd (show W.heap.size ≤ wx1.heap.size from hb.size)
  have PR := Hd (PR.out.below hb)
  have HB := Hd (belowTo HB.out hb)
  obtain ⟨l_r, r0, r1, r2, r3, fr0, fr1, fr2, fr3⟩ := PR.out.facts
  have HQ := Hd (PR.out.store (.bool (decide (N < 0))) (.slice A8 (natL N.natAbs).length c8) (.bool (decide (D < 0))) (.slice B8 (natL D.natAbs).length e8))
  have HF := Hd (below4 HB.out (show w.heap.size ≤ w.heap.size + 1 + 1 by omega) (.bool (decide (N < 0))) (.slice A8 (natL N.natAbs).length c8) (.bool (decide (D < 0))) (.slice B8 (natL D.natAbs).length e8))
  have HO := Hd (O8.out.quad PR.out (.bool (decide (N < 0))) (.slice A8 (natL N.natAbs).length c8) (.bool (decide (D < 0))) (.slice B8 (natL D.natAbs).length e8))
  go_wp2_with fail
  obtain ⟨_, k0, k1, k2, k3, _⟩ := HQ.out.facts
  exact bodyPost_ret (by simp [results, Tryz.results48, go_sem, k0, k1, k2, k3]) rfl ⟨_, rfl, HO.out.base HS0.out, HF.out⟩
theorem frac_Quo_good (n d m f : Int) (A B A2 B2 : Option Addr) (c e0 c2 e2 : Nat) (w : World) (hx : Raw w A c (natL n.natAbs)) (kx : Raw w B e0 (natL d.natAbs)) (hy : Raw w A2 c2 (natL m.natAbs)) (ky : Raw w B2 e2 (natL f.natAbs)) (f1 : Fine n d) (f2 : Fine m f) (hm0 : m ≠ 0) :
    Calls Tryz.prog 48 #[.agg #[.bool (decide (n < 0)), .slice A (natL n.natAbs).length c, .bool (decide (d < 0)), .slice B (natL d.natAbs).length e0], .agg #[.bool (decide (m < 0)), .slice A2 (natL m.natAbs).length c2, .bool (decide (f < 0)), .slice B2 (natL f.natAbs).length e2]] w (RetFracOwn2 w.heap.size w (ansN (quoN n d m f) (quoD n d m f)) (ansD (quoN n d m f) (quoD n d m f)) (ansK (quoN n d m f) (quoD n d m f))) := by
  have hl1 : lz n ≤ 2048 := f1.num
  have hl2 : lz d ≤ 2048 := f1.den
  have hl3 : lz m ≤ 2048 := f2.num
  have hl4 : lz f ≤ 2048 := f2.den
  have hp1 := f1.pos
  have hp2 := f2.pos
  exact frac_Quo_any _ _ _ _ A B A2 B2 c e0 c2 e2 _ _ _ _ _ _ _ (fun V a1 a2 a3 a4 => do_over _ _ _ _ A B A2 B2 c e0 c2 e2 _ _ _ _ _ _ (fun V a1 a2 a3 a4 => clos_quo n d m f A B A2 B2 c e0 c2 e2 V a1 a2 a3 a4 (by omega) (by omega) (by omega) (by omega) (by omega) hm0) V a1 a2 a3 a4 (by rw [f1.chk, f2.chk]; rfl)) w hx kx hy ky
/- Make of the references of chapter 02. (Written by wip/frac/genfmake.py ref.) -/

def RetFrac2 (w : World) (n d k : Int) (e : Ending) (w' : World) : Prop := ∃ v, e = .returned (.tuple #[v, .int .i64 k]) ∧ FracAt w' v n d ∧ Below w.heap.size w w'
theorem FracAt.quad {w : World} {g : Nat} {v : Value} {n d : Int} (h : FracAt w v n d) {b1 b2 : Bool} {A1 A2 : Option Addr} {n1 n2 c1 c2 : Nat} (q : Quad w g (.bool b1) (.slice A1 n1 c1) (.bool b2) (.slice A2 n2 c2)) (x y z u : Value) : FracAt ((((w.setCell ⟨g, 0, none⟩ x).setCell ⟨g, 1, none⟩ y).setCell ⟨g, 2, none⟩ z).setCell ⟨g, 3, none⟩ u) v n d := by
  obtain ⟨A, k, B, e, h1, h2, h3⟩ := h.form
  exact ⟨A, k, B, e, h1, h2.quad q _ _ _ _, h3.quad q _ _ _ _⟩

end Go.Proofs.YthlehkjcfhnplaaGreatDoor
