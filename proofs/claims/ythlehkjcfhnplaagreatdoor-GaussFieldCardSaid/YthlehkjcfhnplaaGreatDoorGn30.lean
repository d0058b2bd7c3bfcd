/- Several texts in one: Oct, RatOps, FClos, FRefMake. -/
import Derived.Test.YthlehkjcfhnplaaGreatDoorGn27
import Derived.Test.YthlehkjcfhnplaaGreatDoorGn28
import Derived.Test.YthlehkjcfhnplaaGreatDoorGn29
import Derived.Test.YthlehkjcfhnplaaGreatDoorGn01
import Derived.Test.YthlehkjcfhnplaaGreatDoorGn19
import Derived.Test.YthlehkjcfhnplaaGreatDoorGn23
import Derived.Test.YthlehkjcfhnplaaGreatDoorGn22
import Derived.Test.YthlehkjcfhnplaaGreatDoorGn14
import Derived.Test.YthlehkjcfhnplaaGreatDoorGn12
import Derived.Test.YthlehkjcfhnplaaGreatDoorGn13
import Derived.Test.YthlehkjcfhnplaaGreatDoorGn07
import Derived.Test.YthlehkjcfhnplaaGreatDoorGn08
import Derived.Test.YthlehkjcfhnplaaGreatDoorGn10
import Derived.Test.YthlehkjcfhnplaaGreatDoorGn03
import Derived.Test.YthlehkjcfhnplaaGreatDoorGn02
import Derived.Test.YthlehkjcfhnplaaGreatDoorGn09
import Derived.Test.YthlehkjcfhnplaaGreatDoorGn05
import Derived.Test.YthlehkjcfhnplaaGreatDoorGn04
import Derived.Test.YthlehkjcfhnplaaGreatDoorGn06
import Derived.Test.YthlehkjcfhnplaaGreatDoorGn11
import Derived.Test.YthlehkjcfhnplaaGreatDoorGn21
import Derived.Test.YthlehkjcfhnplaaGreatDoorGn20
import Derived.Test.YthlehkjcfhnplaaGreatDoorGn18
import Derived.Test.YthlehkjcfhnplaaGreatDoorGn16
import Derived.Test.YthlehkjcfhnplaaGreatDoorGn15
import Derived.Test.YthlehkjcfhnplaaGreatDoorGn17
import Derived.Test.YthlehkjcfhnplaaGreatDoorGn24
import Derived.Test.YthlehkjcfhnplaaGreatDoorGn25
import Derived.Test.YthlehkjcfhnplaaGreatDoorGn26
set_option maxRecDepth 100000
set_option maxHeartbeats 8000000
/- Structs of two fractions: eight cells. What is known of them, wherever their limbs lie. -/
namespace Go.Proofs.YthlehkjcfhnplaaGreatDoor
open Go.RowKit

structure Oct (w : World) (g : Nat) (T : TypeId) (a b c d e f h i : Value) : Prop where
  blk : Blk w g T #[a, b, c, d, e, f, h, i]
section
variable {w w' : World} {g : Nat} {T : TypeId} {a b c d e f h i : Value}
theorem Oct.new (w : World) (T : TypeId) (a b c d e f h i : Value) : Oct (w.alloc (.cells #[a, b, c, d, e, f, h, i] T)) w.heap.size T a b c d e f h i := ⟨Blk.new w _ _⟩
theorem Oct.alloc (k : Oct w g T a b c d e f h i) (o : Obj) : Oct (w.alloc o) g T a b c d e f h i := ⟨k.blk.alloc o⟩
theorem Oct.below (k : Oct w g T a b c d e f h i) (hb : Below w.heap.size w w') : Oct w' g T a b c d e f h i := ⟨k.blk.below hb k.blk.lt⟩
theorem Oct.facts (k : Oct w g T a b c d e f h i) : g < w.heap.size ∧ w.cell? ⟨g, 0, none⟩ = some a ∧ w.cell? ⟨g, 1, none⟩ = some b ∧ w.cell? ⟨g, 2, none⟩ = some c ∧ w.cell? ⟨g, 3, none⟩ = some d ∧
    w.cell? ⟨g, 4, none⟩ = some e ∧ w.cell? ⟨g, 5, none⟩ = some f ∧ w.cell? ⟨g, 6, none⟩ = some h ∧ w.cell? ⟨g, 7, none⟩ = some i :=
  ⟨k.blk.lt, k.blk.cell 0, k.blk.cell 1, k.blk.cell 2, k.blk.cell 3, k.blk.cell 4, k.blk.cell 5, k.blk.cell 6, k.blk.cell 7⟩
theorem Oct.free (k : Oct w g T a b c d e f h i) : w.frozen? ⟨g, 0, none⟩ = false ∧ w.frozen? ⟨g, 1, none⟩ = false ∧ w.frozen? ⟨g, 2, none⟩ = false ∧ w.frozen? ⟨g, 3, none⟩ = false ∧
    w.frozen? ⟨g, 4, none⟩ = false ∧ w.frozen? ⟨g, 5, none⟩ = false ∧ w.frozen? ⟨g, 6, none⟩ = false ∧ w.frozen? ⟨g, 7, none⟩ = false :=
  ⟨k.blk.frozen 0, k.blk.frozen 1, k.blk.frozen 2, k.blk.frozen 3, k.blk.frozen 4, k.blk.frozen 5, k.blk.frozen 6, k.blk.frozen 7⟩
end
theorem set8_far (w : World) (g : Nat) (x0 x1 x2 x3 x4 x5 x6 x7 : Value) (k : Nat) (hk : k ≠ g) : ((((((((w.setCell ⟨g, 0, none⟩ x0).setCell ⟨g, 1, none⟩ x1).setCell ⟨g, 2, none⟩ x2).setCell ⟨g, 3, none⟩ x3).setCell ⟨g, 4, none⟩ x4).setCell ⟨g, 5, none⟩ x5).setCell ⟨g, 6, none⟩ x6).setCell ⟨g, 7, none⟩ x7).heap[k]? = w.heap[k]? := by
  rw [Below.heap_setCell _ ⟨g, 7, none⟩ x7 k hk, Below.heap_setCell _ ⟨g, 6, none⟩ x6 k hk, Below.heap_setCell _ ⟨g, 5, none⟩ x5 k hk, Below.heap_setCell _ ⟨g, 4, none⟩ x4 k hk, Below.heap_setCell _ ⟨g, 3, none⟩ x3 k hk, Below.heap_setCell _ ⟨g, 2, none⟩ x2 k hk, Below.heap_setCell _ ⟨g, 1, none⟩ x1 k hk, Below.heap_setCell _ ⟨g, 0, none⟩ x0 k hk]
theorem below8 {W w : World} {B g : Nat} (h : Below B W w) (hg : B ≤ g) (x0 x1 x2 x3 x4 x5 x6 x7 : Value) : Below B W ((((((((w.setCell ⟨g, 0, none⟩ x0).setCell ⟨g, 1, none⟩ x1).setCell ⟨g, 2, none⟩ x2).setCell ⟨g, 3, none⟩ x3).setCell ⟨g, 4, none⟩ x4).setCell ⟨g, 5, none⟩ x5).setCell ⟨g, 6, none⟩ x6).setCell ⟨g, 7, none⟩ x7) :=
  ((((((((h.setCell (p := ⟨g, 0, none⟩) hg x0).setCell (p := ⟨g, 1, none⟩) hg x1).setCell (p := ⟨g, 2, none⟩) hg x2).setCell (p := ⟨g, 3, none⟩) hg x3).setCell (p := ⟨g, 4, none⟩) hg x4).setCell (p := ⟨g, 5, none⟩) hg x5).setCell (p := ⟨g, 6, none⟩) hg x6).setCell (p := ⟨g, 7, none⟩) hg x7)
theorem Oct.store {w : World} {g : Nat} {T : TypeId} {a b c d e f h i : Value} (k : Oct w g T a b c d e f h i) (x0 x1 x2 x3 x4 x5 x6 x7 : Value) : Oct ((((((((w.setCell ⟨g, 0, none⟩ x0).setCell ⟨g, 1, none⟩ x1).setCell ⟨g, 2, none⟩ x2).setCell ⟨g, 3, none⟩ x3).setCell ⟨g, 4, none⟩ x4).setCell ⟨g, 5, none⟩ x5).setCell ⟨g, 6, none⟩ x6).setCell ⟨g, 7, none⟩ x7) g T x0 x1 x2 x3 x4 x5 x6 x7 := by
  have key := ((((((((k.blk.set_ 0 x0).set_ 1 x1).set_ 2 x2).set_ 3 x3).set_ 4 x4).set_ 5 x5).set_ 6 x6).set_ 7 x7)
  have e9 : ((((((((#[a, b, c, d, e, f, h, i].setIfInBounds 0 x0).setIfInBounds 1 x1).setIfInBounds 2 x2).setIfInBounds 3 x3).setIfInBounds 4 x4).setIfInBounds 5 x5).setIfInBounds 6 x6).setIfInBounds 7 x7) = #[x0, x1, x2, x3, x4, x5, x6, x7] := by simp
  rw [e9] at key
  exact ⟨key⟩
theorem IntOwn.other {w w' : World} {base g : Nat} {v : Value} {n : Int} {T : TypeId} {cs : Array Value} (hi : IntOwn w base v n) (hb : Blk w g T cs) (hT : 114 ≠ T) (hw : ∀ k, k ≠ g → w'.heap[k]? = w.heap[k]?) : IntOwn w' base v n := by
  obtain ⟨A', c', a1, a2, a3, a4⟩ := hi.form
  have hne := own_blk_ne a4 hb hT
  refine ⟨A', c', a1, a2, a3, a4.1, ?_⟩
  rcases a4.2 with p | ⟨g', cap, cur, p1, p2, p3, p4⟩
  · exact .inl p
  · refine .inr ⟨g', cap, cur, p1, p2, ?_, p4⟩
    have hg : g' ≠ g := fun e => by
      rw [p1] at hne
      exact hne (by simp [Value.ownBlock, e])
    rw [hw g' hg]
    exact p3
theorem FracOwn.other {w w' : World} {base g : Nat} {v : Value} {n d : Int} {T : TypeId} {cs : Array Value} (h : FracOwn w base v n d) (hb : Blk w g T cs) (hT : 114 ≠ T) (hw : ∀ k, k ≠ g → w'.heap[k]? = w.heap[k]?) : FracOwn w' base v n d := by
  obtain ⟨A, c, B, e, h1, h2, h3, h4⟩ := h.form
  exact ⟨A, c, B, e, h1, h2.other hb hT hw, h3.other hb hT hw, h4⟩
theorem FracIn.other {w w' : World} {base g : Nat} {v : Value} {n d : Int} {T : TypeId} {cs : Array Value} (h : FracIn w base v n d) (hb : Blk w g T cs) (hT : 114 ≠ T) (hw : ∀ k, k ≠ g → w'.heap[k]? = w.heap[k]?) : FracIn w' base v n d := by
  obtain ⟨A, c, B, e, h1, h2, h3⟩ := h.form
  exact ⟨A, c, B, e, h1, h2.other hb hT hw, h3.other hb hT hw⟩
theorem heap_same {w : World} {b : Nat} {T : TypeId} {v : Value} (hb : Blk w b T #[v]) (g : Nat) : (w.setCell ⟨b, 0, none⟩ v).heap[g]? = w.heap[g]? := by
  by_cases e : g = b
  · subst e
    have k : Blk (w.setCell ⟨g, 0, none⟩ v) g T #[v] := hb.set_ 0 v
    unfold Blk at hb k
    rw [hb, k]
  · exact Below.heap_setCell _ ⟨b, 0, none⟩ v g e
theorem Below.same {W w : World} {B b : Nat} {T : TypeId} {v : Value} (h : Below B W w) (hb : Blk w b T #[v]) : Below B W (w.setCell ⟨b, 0, none⟩ v) :=
  ⟨h.os, h.tape, h.output, by simpa using h.size, fun g hg => by rw [heap_same hb]; exact h.block g hg⟩
structure Cell1 (w : World) (b : Nat) (T : TypeId) (v : Value) : Prop where
  blk : Blk w b T #[v]
theorem Cell1.below {w w' : World} {b : Nat} {T : TypeId} {v : Value} (h : Cell1 w b T v) (hb : Below w.heap.size w w') : Cell1 w' b T v := ⟨h.blk.below hb h.blk.lt⟩
theorem boxes1 {w : World} {c1 : Array Value} {T1 : TypeId} {P : World → Prop} (h : ∀ W, Blk W w.heap.size T1 c1 → Below w.heap.size w W → P W) : P (w.alloc (.cells c1 T1)) := h _ (Blk.new w _ _) ((Below.refl _ _).alloc (Nat.le_refl _) _)
theorem boxes2 {w : World} {c1 c2 : Array Value} {T1 T2 : TypeId} {P : World → Prop} (h : ∀ W, Blk W w.heap.size T1 c1 → Blk W (w.heap.size + 1) T2 c2 → Below w.heap.size w W → P W) : P ((w.alloc (.cells c1 T1)).alloc (.cells c2 T2)) := by
  have k := Blk.new (w.alloc (.cells c1 T1)) T2 c2
  rw [World.size_alloc] at k
  exact h _ ((Blk.new w _ _).alloc _) k (((Below.refl _ _).alloc (Nat.le_refl _) _).alloc (by simp) _)
theorem boxes3 {w : World} {c1 c2 c3 : Array Value} {T1 T2 T3 : TypeId} {P : World → Prop} (h : ∀ W, Blk W w.heap.size T1 c1 → Blk W (w.heap.size + 1) T2 c2 → Blk W (w.heap.size + 1 + 1) T3 c3 → Below w.heap.size w W → P W) : P (((w.alloc (.cells c1 T1)).alloc (.cells c2 T2)).alloc (.cells c3 T3)) := by
  refine boxes2 (w := w) (c1 := c1) (T1 := T1) (c2 := c2) (T2 := T2) (P := fun V => V.heap.size = w.heap.size + 1 + 1 → P (V.alloc (.cells c3 T3))) (fun V h1 h2 h3 hz => ?_) (by simp)
  have k := Blk.new V T3 c3
  rw [hz] at k
  exact h _ (h1.alloc _) (h2.alloc _) k (h3.alloc (by omega) _)
def blkFrac (v : Value) (g : Nat) : Prop := ∃ b1 A k c b2 B l e, v = .agg #[.bool b1, .slice A k c, .bool b2, .slice B l e] ∧ ((Value.slice A k c).ownBlock = some g ∨ (Value.slice B l e).ownBlock = some g)
theorem blkFrac.at {b1 b2 : Bool} {A B : Option Addr} {k c l e g : Nat} (h : blkFrac (.agg #[.bool b1, .slice A k c, .bool b2, .slice B l e]) g) : (Value.slice A k c).ownBlock = some g ∨ (Value.slice B l e).ownBlock = some g := by
  obtain ⟨c1, A', k', c', c2, B', l', e', h1, h2⟩ := h
  simp only [Value.agg.injEq, Array.mk.injEq, List.cons.injEq, Value.slice.injEq, and_true] at h1
  obtain ⟨-, ⟨rfl, rfl, rfl⟩, -, rfl, rfl, rfl⟩ := h1
  exact h2
theorem blkFrac.of {b1 b2 : Bool} {A B : Option Addr} {k c l e g : Nat} (h : (Value.slice A k c).ownBlock = some g ∨ (Value.slice B l e).ownBlock = some g) : blkFrac (.agg #[.bool b1, .slice A k c, .bool b2, .slice B l e]) g := ⟨_, _, _, _, _, _, _, _, rfl, h⟩
theorem FracOwn.mine {w : World} {base : Nat} {v : Value} {n d : Int} (h : FracOwn w base v n d) : ∀ g, blkFrac v g → base ≤ g ∧ g < w.heap.size := by
  obtain ⟨A, c, B, e, rfl, h1, h2, -⟩ := h.form
  intro g hg
  rcases hg.at with h3 | h3
  · exact h1.mine g h3
  · exact h2.mine g h3
theorem FracOwn.in_ {w : World} {base : Nat} {v : Value} {n d : Int} (h : FracOwn w base v n d) : FracIn w 0 v n d := by
  obtain ⟨A, c, B, e, h1, h2, h3, -⟩ := h.form
  exact ⟨A, c, B, e, h1, h2.base (Nat.zero_le _), h3.base (Nat.zero_le _)⟩
structure GaussAt (w : World) (v : Value) (n d m f : Int) : Prop where
  form : ∃ A c B e A2 c2 B2 e2, v = .agg #[.bool (decide (n < 0)), .slice A (natL n.natAbs).length c, .bool (decide (d < 0)), .slice B (natL d.natAbs).length e, .bool (decide (m < 0)), .slice A2 (natL m.natAbs).length c2, .bool (decide (f < 0)), .slice B2 (natL f.natAbs).length e2] ∧
    Raw w A c (natL n.natAbs) ∧ Raw w B e (natL d.natAbs) ∧ Raw w A2 c2 (natL m.natAbs) ∧ Raw w B2 e2 (natL f.natAbs)
theorem GaussAt.below {w w' : World} {v : Value} {n d m f : Int} (h : GaussAt w v n d m f) (hb : Below w.heap.size w w') : GaussAt w' v n d m f := by
  obtain ⟨A, c, B, e, A2, c2, B2, e2, h1, h2, h3, h4, h5⟩ := h.form
  exact ⟨A, c, B, e, A2, c2, B2, e2, h1, h2.below hb, h3.below hb, h4.below hb, h5.below hb⟩
structure GaussIn (w : World) (v : Value) (n d m f : Int) : Prop where
  form : ∃ A c B e A2 c2 B2 e2, v = .agg #[.bool (decide (n < 0)), .slice A (natL n.natAbs).length c, .bool (decide (d < 0)), .slice B (natL d.natAbs).length e, .bool (decide (m < 0)), .slice A2 (natL m.natAbs).length c2, .bool (decide (f < 0)), .slice B2 (natL f.natAbs).length e2] ∧
    FracIn w 0 (.agg #[.bool (decide (n < 0)), .slice A (natL n.natAbs).length c, .bool (decide (d < 0)), .slice B (natL d.natAbs).length e]) n d ∧ FracIn w 0 (.agg #[.bool (decide (m < 0)), .slice A2 (natL m.natAbs).length c2, .bool (decide (f < 0)), .slice B2 (natL f.natAbs).length e2]) m f
theorem FracIn.raws {w : World} {base c e : Nat} {A B : Option Addr} {n d : Int} (h : FracIn w base (.agg #[.bool (decide (n < 0)), .slice A (natL n.natAbs).length c, .bool (decide (d < 0)), .slice B (natL d.natAbs).length e]) n d) : Raw w A c (natL n.natAbs) ∧ Raw w B e (natL d.natAbs) := by
  obtain ⟨A', c', B', e', h1, h2, h3⟩ := h.form
  simp only [Value.agg.injEq, Array.mk.injEq, List.cons.injEq, Value.slice.injEq, and_true, true_and] at h1
  obtain ⟨⟨rfl, rfl⟩, rfl, rfl⟩ := h1
  exact ⟨h2.rawAt, h3.rawAt⟩
theorem GaussIn.at_ {w : World} {v : Value} {n d m f : Int} (h : GaussIn w v n d m f) : GaussAt w v n d m f := by
  obtain ⟨A, c, B, e, A2, c2, B2, e2, h1, h2, h3⟩ := h.form
  exact ⟨A, c, B, e, A2, c2, B2, e2, h1, h2.raws.1, h2.raws.2, h3.raws.1, h3.raws.2⟩
theorem GaussIn.kept {B : Nat} {Ts : List TypeId} {w w' : World} {v : Value} {n d m f : Int} (h : GaussIn w v n d m f) (k : KeptV B Ts w w') (hT : 114 ∉ Ts) : GaussIn w' v n d m f := by
  obtain ⟨A, c, B, e, A2, c2, B2, e2, h1, h2, h3⟩ := h.form
  exact ⟨A, c, B, e, A2, c2, B2, e2, h1, h2.kept k hT, h3.kept k hT⟩
theorem GaussIn.below {w w' : World} {v : Value} {n d m f : Int} (h : GaussIn w v n d m f) (hb : Below w.heap.size w w') : GaussIn w' v n d m f := by
  obtain ⟨A, c, B, e, A2, c2, B2, e2, h1, h2, h3⟩ := h.form
  exact ⟨A, c, B, e, A2, c2, B2, e2, h1, h2.below hb, h3.below hb⟩
theorem GaussIn.cells {w : World} {v : Value} {n d m f : Int} (h : GaussIn w v n d m f) : CellsN v 8 := by
  obtain ⟨A, c, B, e, A2, c2, B2, e2, rfl, -⟩ := h.form
  exact ⟨rfl, by simp [Value.cells, Value.oneCell']⟩
theorem GaussIn.raws {w : World} {n d m f : Int} {A B C D : Option Addr} {c e k l : Nat} (h : GaussIn w (.agg #[.bool (decide (n < 0)), .slice A (natL n.natAbs).length c, .bool (decide (d < 0)), .slice B (natL d.natAbs).length e, .bool (decide (m < 0)), .slice C (natL m.natAbs).length k, .bool (decide (f < 0)), .slice D (natL f.natAbs).length l]) n d m f) :
    Raw w A c (natL n.natAbs) ∧ Raw w B e (natL d.natAbs) ∧ Raw w C k (natL m.natAbs) ∧ Raw w D l (natL f.natAbs) := by
  obtain ⟨A1, k1, A2, k2, A3, k3, A4, k4, h1, h2, h3⟩ := h.form
  simp only [Value.agg.injEq, Array.mk.injEq, List.cons.injEq, Value.slice.injEq, and_true, true_and] at h1
  obtain ⟨⟨rfl, rfl⟩, ⟨rfl, rfl⟩, ⟨rfl, rfl⟩, rfl, rfl⟩ := h1
  exact ⟨h2.raws.1, h2.raws.2, h3.raws.1, h3.raws.2⟩
structure GaussOwn (w : World) (base : Nat) (v : Value) (n d m f : Int) : Prop where
  form : ∃ A c B e A2 c2 B2 e2, v = .agg #[.bool (decide (n < 0)), .slice A (natL n.natAbs).length c, .bool (decide (d < 0)), .slice B (natL d.natAbs).length e, .bool (decide (m < 0)), .slice A2 (natL m.natAbs).length c2, .bool (decide (f < 0)), .slice B2 (natL f.natAbs).length e2] ∧
    FracOwn w base (.agg #[.bool (decide (n < 0)), .slice A (natL n.natAbs).length c, .bool (decide (d < 0)), .slice B (natL d.natAbs).length e]) n d ∧ FracOwn w base (.agg #[.bool (decide (m < 0)), .slice A2 (natL m.natAbs).length c2, .bool (decide (f < 0)), .slice B2 (natL f.natAbs).length e2]) m f ∧
    ∀ g, blkFrac (.agg #[.bool (decide (n < 0)), .slice A (natL n.natAbs).length c, .bool (decide (d < 0)), .slice B (natL d.natAbs).length e]) g → ¬ blkFrac (.agg #[.bool (decide (m < 0)), .slice A2 (natL m.natAbs).length c2, .bool (decide (f < 0)), .slice B2 (natL f.natAbs).length e2]) g
theorem GaussOwn.in_ {w : World} {base : Nat} {v : Value} {n d m f : Int} (h : GaussOwn w base v n d m f) : GaussIn w v n d m f := by
  obtain ⟨A, c, B, e, A2, c2, B2, e2, h1, h2, h3, -⟩ := h.form
  exact ⟨A, c, B, e, A2, c2, B2, e2, h1, h2.in_, h3.in_⟩
theorem GaussOwn.cells {w : World} {base : Nat} {v : Value} {n d m f : Int} (h : GaussOwn w base v n d m f) : CellsN v 8 := h.in_.cells
theorem GaussOwn.kept {B : Nat} {Ts : List TypeId} {w w' : World} {base : Nat} {v : Value} {n d m f : Int} (h : GaussOwn w base v n d m f) (k : KeptV B Ts w w') (hT : 114 ∉ Ts) : GaussOwn w' base v n d m f := by
  obtain ⟨A, c, B, e, A2, c2, B2, e2, h1, h2, h3, h4⟩ := h.form
  exact ⟨A, c, B, e, A2, c2, B2, e2, h1, h2.kept k hT, h3.kept k hT, h4⟩
theorem GaussOwn.below {w w' : World} {base : Nat} {v : Value} {n d m f : Int} (h : GaussOwn w base v n d m f) (hb : Below w.heap.size w w') : GaussOwn w' base v n d m f := by
  obtain ⟨A, c, B, e, A2, c2, B2, e2, h1, h2, h3, h4⟩ := h.form
  exact ⟨A, c, B, e, A2, c2, B2, e2, h1, h2.below hb, h3.below hb, h4⟩
theorem GaussOwn.base {w : World} {b b' : Nat} {v : Value} {n d m f : Int} (h : GaussOwn w b v n d m f) (hb : b' ≤ b) : GaussOwn w b' v n d m f := by
  obtain ⟨A, c, B, e, A2, c2, B2, e2, h1, h2, h3, h4⟩ := h.form
  exact ⟨A, c, B, e, A2, c2, B2, e2, h1, h2.base hb, h3.base hb, h4⟩
theorem GaussOwn.nought (w : World) (base : Nat) : GaussOwn w base (.agg #[.bool false, .slice none 0 0, .bool false, .slice none 0 0, .bool false, .slice none 0 0, .bool false, .slice none 0 0]) 0 0 0 0 :=
  ⟨none, 0, none, 0, none, 0, none, 0, rfl, FracOwn.nought _ _, FracOwn.nought _ _, fun g hg => by rcases hg.at with h | h <;> cases h⟩
theorem GaussOwn.oct {w : World} {base g : Nat} {v : Value} {n d m f : Int} {T : TypeId} {a b c e h i j k : Value} (q : GaussOwn w base v n d m f) (o : Oct w g T a b c e h i j k) (hT : 114 ≠ T) (x0 x1 x2 x3 x4 x5 x6 x7 : Value) : GaussOwn ((((((((w.setCell ⟨g, 0, none⟩ x0).setCell ⟨g, 1, none⟩ x1).setCell ⟨g, 2, none⟩ x2).setCell ⟨g, 3, none⟩ x3).setCell ⟨g, 4, none⟩ x4).setCell ⟨g, 5, none⟩ x5).setCell ⟨g, 6, none⟩ x6).setCell ⟨g, 7, none⟩ x7) base v n d m f := by
  obtain ⟨A, c, B, e, A2, c2, B2, e2, h1, h2, h3, h4⟩ := q.form
  exact ⟨A, c, B, e, A2, c2, B2, e2, h1, h2.other o.blk hT (set8_far w g x0 x1 x2 x3 x4 x5 x6 x7), h3.other o.blk hT (set8_far w g x0 x1 x2 x3 x4 x5 x6 x7), h4⟩
theorem GaussIn.oct {w : World} {g : Nat} {v : Value} {n d m f : Int} {T : TypeId} {a b c e h i j k : Value} (q : GaussIn w v n d m f) (o : Oct w g T a b c e h i j k) (hT : 114 ≠ T) (x0 x1 x2 x3 x4 x5 x6 x7 : Value) : GaussIn ((((((((w.setCell ⟨g, 0, none⟩ x0).setCell ⟨g, 1, none⟩ x1).setCell ⟨g, 2, none⟩ x2).setCell ⟨g, 3, none⟩ x3).setCell ⟨g, 4, none⟩ x4).setCell ⟨g, 5, none⟩ x5).setCell ⟨g, 6, none⟩ x6).setCell ⟨g, 7, none⟩ x7) v n d m f := by
  obtain ⟨A, c, B, e, A2, c2, B2, e2, h1, h2, h3⟩ := q.form
  exact ⟨A, c, B, e, A2, c2, B2, e2, h1, h2.other o.blk hT (set8_far w g x0 x1 x2 x3 x4 x5 x6 x7), h3.other o.blk hT (set8_far w g x0 x1 x2 x3 x4 x5 x6 x7)⟩
def RetGaussOwn (base : Nat) (w : World) (n d m f : Int) (e : Ending) (w' : World) : Prop := ∃ v, e = .returned v ∧ GaussOwn w' base v n d m f ∧ Below w.heap.size w w'
def RetGaussOwn2 (base : Nat) (w : World) (n d m f k : Int) (e : Ending) (w' : World) : Prop := ∃ v, e = .returned (.tuple #[v, .int .i64 k]) ∧ GaussOwn w' base v n d m f ∧ Below w.heap.size w w'
def RetGaussIn (w : World) (n d m f : Int) (e : Ending) (w' : World) : Prop := ∃ v, e = .returned v ∧ GaussIn w' v n d m f ∧ Below w.heap.size w w'
def RetGaussIn2 (w : World) (n d m f k : Int) (e : Ending) (w' : World) : Prop := ∃ v, e = .returned (.tuple #[v, .int .i64 k]) ∧ GaussIn w' v n d m f ∧ Below w.heap.size w w'
structure FracRaw (w : World) (v : Value) (n1 n2 : Bool) (xs ys : List Nat) : Prop where
  form : ∃ A c B e, v = .agg #[.bool n1, .slice A xs.length c, .bool n2, .slice B ys.length e] ∧ Raw w A c xs ∧ Raw w B e ys
structure GaussRaw (w : World) (v : Value) (n1 n2 n3 n4 : Bool) (xs ys us vs : List Nat) : Prop where
  form : ∃ A c B e A2 c2 B2 e2, v = .agg #[.bool n1, .slice A xs.length c, .bool n2, .slice B ys.length e, .bool n3, .slice A2 us.length c2, .bool n4, .slice B2 vs.length e2] ∧ Raw w A c xs ∧ Raw w B e ys ∧ Raw w A2 c2 us ∧ Raw w B2 e2 vs
theorem GaussAt.raw {w : World} {v : Value} {n d m f : Int} (h : GaussAt w v n d m f) : GaussRaw w v (decide (n < 0)) (decide (d < 0)) (decide (m < 0)) (decide (f < 0)) (natL n.natAbs) (natL d.natAbs) (natL m.natAbs) (natL f.natAbs) := ⟨h.form⟩
theorem FracAt.raw {w : World} {v : Value} {n d : Int} (h : FracAt w v n d) : FracRaw w v (decide (n < 0)) (decide (d < 0)) (natL n.natAbs) (natL d.natAbs) := ⟨h.form⟩
section
variable {w w' : World} {c e k l : Nat} {n d m f : Int} {A B C D : Option Addr}
theorem GaussAt.raws (h : GaussAt w (.agg #[.bool (decide (n < 0)), .slice A (natL n.natAbs).length c, .bool (decide (d < 0)), .slice B (natL d.natAbs).length e, .bool (decide (m < 0)), .slice C (natL m.natAbs).length k, .bool (decide (f < 0)), .slice D (natL f.natAbs).length l]) n d m f) : Raw w A c (natL n.natAbs) ∧ Raw w B e (natL d.natAbs) ∧ Raw w C k (natL m.natAbs) ∧ Raw w D l (natL f.natAbs) := by
  obtain ⟨A1, k1, A2, k2, A3, k3, A4, k4, h1, h2, h3, h4, h5⟩ := h.form
  simp only [Value.agg.injEq, Array.mk.injEq, List.cons.injEq, Value.slice.injEq, and_true, true_and] at h1
  obtain ⟨⟨rfl, rfl⟩, ⟨rfl, rfl⟩, ⟨rfl, rfl⟩, rfl, rfl⟩ := h1
  exact ⟨h2, h3, h4, h5⟩
theorem GaussAt.re (h : GaussAt w (.agg #[.bool (decide (n < 0)), .slice A (natL n.natAbs).length c, .bool (decide (d < 0)), .slice B (natL d.natAbs).length e, .bool (decide (m < 0)), .slice C (natL m.natAbs).length k, .bool (decide (f < 0)), .slice D (natL f.natAbs).length l]) n d m f) : FracAt w (.agg #[.bool (decide (n < 0)), .slice A (natL n.natAbs).length c, .bool (decide (d < 0)), .slice B (natL d.natAbs).length e]) n d := ⟨_, _, _, _, rfl, h.raws.1, h.raws.2.1⟩
theorem GaussAt.im (h : GaussAt w (.agg #[.bool (decide (n < 0)), .slice A (natL n.natAbs).length c, .bool (decide (d < 0)), .slice B (natL d.natAbs).length e, .bool (decide (m < 0)), .slice C (natL m.natAbs).length k, .bool (decide (f < 0)), .slice D (natL f.natAbs).length l]) n d m f) : FracAt w (.agg #[.bool (decide (m < 0)), .slice C (natL m.natAbs).length k, .bool (decide (f < 0)), .slice D (natL f.natAbs).length l]) m f := ⟨_, _, _, _, rfl, h.raws.2.2.1, h.raws.2.2.2⟩
theorem FracAt.raws (h : FracAt w (.agg #[.bool (decide (n < 0)), .slice A (natL n.natAbs).length c, .bool (decide (d < 0)), .slice B (natL d.natAbs).length e]) n d) : Raw w A c (natL n.natAbs) ∧ Raw w B e (natL d.natAbs) := by
  obtain ⟨A', c', B', e', h1, h2, h3⟩ := h.form
  simp only [Value.agg.injEq, Array.mk.injEq, List.cons.injEq, Value.slice.injEq, and_true, true_and] at h1
  obtain ⟨⟨rfl, rfl⟩, rfl, rfl⟩ := h1
  exact ⟨h2, h3⟩
end
section
variable {w w' : World} {v : Value} {n1 n2 n3 n4 : Bool} {xs ys us vs : List Nat} {c e k l : Nat} {A B C D : Option Addr}
theorem FracRaw.below (h : FracRaw w v n1 n2 xs ys) (hb : Below w.heap.size w w') : FracRaw w' v n1 n2 xs ys := by
  obtain ⟨A', c', B', e', h1, h2, h3⟩ := h.form
  exact ⟨A', c', B', e', h1, h2.below hb, h3.below hb⟩
theorem GaussRaw.below (h : GaussRaw w v n1 n2 n3 n4 xs ys us vs) (hb : Below w.heap.size w w') : GaussRaw w' v n1 n2 n3 n4 xs ys us vs := by
  obtain ⟨A1, k1, A2, k2, A3, k3, A4, k4, h1, h2, h3, h4, h5⟩ := h.form
  exact ⟨A1, k1, A2, k2, A3, k3, A4, k4, h1, h2.below hb, h3.below hb, h4.below hb, h5.below hb⟩
theorem FracRaw.raws (h : FracRaw w (.agg #[.bool n1, .slice A xs.length c, .bool n2, .slice B ys.length e]) n1 n2 xs ys) : Raw w A c xs ∧ Raw w B e ys := by
  obtain ⟨A', c', B', e', h1, h2, h3⟩ := h.form
  simp only [Value.agg.injEq, Array.mk.injEq, List.cons.injEq, Value.slice.injEq, and_true, true_and] at h1
  obtain ⟨⟨rfl, rfl⟩, rfl, rfl⟩ := h1
  exact ⟨h2, h3⟩
theorem GaussRaw.raws (h : GaussRaw w (.agg #[.bool n1, .slice A xs.length c, .bool n2, .slice B ys.length e, .bool n3, .slice C us.length k, .bool n4, .slice D vs.length l]) n1 n2 n3 n4 xs ys us vs) : Raw w A c xs ∧ Raw w B e ys ∧ Raw w C k us ∧ Raw w D l vs := by
  obtain ⟨A1, k1, A2, k2, A3, k3, A4, k4, h1, h2, h3, h4, h5⟩ := h.form
  simp only [Value.agg.injEq, Array.mk.injEq, List.cons.injEq, Value.slice.injEq, and_true, true_and] at h1
  obtain ⟨⟨rfl, rfl⟩, ⟨rfl, rfl⟩, ⟨rfl, rfl⟩, rfl, rfl⟩ := h1
  exact ⟨h2, h3, h4, h5⟩
theorem GaussRaw.re (h : GaussRaw w (.agg #[.bool n1, .slice A xs.length c, .bool n2, .slice B ys.length e, .bool n3, .slice C us.length k, .bool n4, .slice D vs.length l]) n1 n2 n3 n4 xs ys us vs) : FracRaw w (.agg #[.bool n1, .slice A xs.length c, .bool n2, .slice B ys.length e]) n1 n2 xs ys := ⟨_, _, _, _, rfl, h.raws.1, h.raws.2.1⟩
theorem GaussRaw.im (h : GaussRaw w (.agg #[.bool n1, .slice A xs.length c, .bool n2, .slice B ys.length e, .bool n3, .slice C us.length k, .bool n4, .slice D vs.length l]) n1 n2 n3 n4 xs ys us vs) : FracRaw w (.agg #[.bool n3, .slice C us.length k, .bool n4, .slice D vs.length l]) n3 n4 us vs := ⟨_, _, _, _, rfl, h.raws.2.2.1, h.raws.2.2.2⟩
end
structure GV (w : World) (g : Nat) (T : TypeId) (n d m f : Int) (A : Option Addr) (c : Nat) (B : Option Addr) (e : Nat) (C : Option Addr) (k : Nat) (D : Option Addr) (l : Nat) : Prop where
  oct : Oct w g T (.bool (decide (n < 0))) (.slice A (natL n.natAbs).length c) (.bool (decide (d < 0))) (.slice B (natL d.natAbs).length e) (.bool (decide (m < 0))) (.slice C (natL m.natAbs).length k) (.bool (decide (f < 0))) (.slice D (natL f.natAbs).length l)
  at_ : GaussAt w (.agg #[.bool (decide (n < 0)), .slice A (natL n.natAbs).length c, .bool (decide (d < 0)), .slice B (natL d.natAbs).length e, .bool (decide (m < 0)), .slice C (natL m.natAbs).length k, .bool (decide (f < 0)), .slice D (natL f.natAbs).length l]) n d m f
section
variable {w w' : World} {g c e k l : Nat} {T : TypeId} {n d m f : Int} {A B C D : Option Addr}
theorem GV.below (h : GV w g T n d m f A c B e C k D l) (hb : Below w.heap.size w w') : GV w' g T n d m f A c B e C k D l := ⟨h.oct.below hb, h.at_.below hb⟩
theorem GV.new (T : TypeId) (h : GaussAt w (.agg #[.bool (decide (n < 0)), .slice A (natL n.natAbs).length c, .bool (decide (d < 0)), .slice B (natL d.natAbs).length e, .bool (decide (m < 0)), .slice C (natL m.natAbs).length k, .bool (decide (f < 0)), .slice D (natL f.natAbs).length l]) n d m f) : GV (w.alloc (.cells #[.bool (decide (n < 0)), .slice A (natL n.natAbs).length c, .bool (decide (d < 0)), .slice B (natL d.natAbs).length e, .bool (decide (m < 0)), .slice C (natL m.natAbs).length k, .bool (decide (f < 0)), .slice D (natL f.natAbs).length l] T)) w.heap.size T n d m f A c B e C k D l := ⟨Oct.new w T _ _ _ _ _ _ _ _, h.below ((Below.refl _ _).alloc (Nat.le_refl _) _)⟩
theorem GV.re (h : GV w g T n d m f A c B e C k D l) : FracAt w (.agg #[.bool (decide (n < 0)), .slice A (natL n.natAbs).length c, .bool (decide (d < 0)), .slice B (natL d.natAbs).length e]) n d := h.at_.re
theorem GV.im (h : GV w g T n d m f A c B e C k D l) : FracAt w (.agg #[.bool (decide (m < 0)), .slice C (natL m.natAbs).length k, .bool (decide (f < 0)), .slice D (natL f.natAbs).length l]) m f := h.at_.im
end
structure TupG (V : World) (base : Nat) (u : Value) (n d m f k : Int) : Prop where
  form : ∃ v, u = .tuple #[v, .int .i64 k] ∧ GaussOwn V base v n d m f
theorem TupG.kept {B : Nat} {Ts : List TypeId} {w w' : World} {base : Nat} {u : Value} {n d m f k : Int} (h : TupG w base u n d m f k) (hk : KeptV B Ts w w') (hT : 114 ∉ Ts) : TupG w' base u n d m f k := by
  obtain ⟨v, h1, h2⟩ := h.form
  exact ⟨v, h1, h2.kept hk hT⟩
structure TupGI (V : World) (u : Value) (n d m f k : Int) : Prop where
  form : ∃ v, u = .tuple #[v, .int .i64 k] ∧ GaussIn V v n d m f
theorem TupGI.kept {B : Nat} {Ts : List TypeId} {w w' : World} {u : Value} {n d m f k : Int} (h : TupGI w u n d m f k) (hk : KeptV B Ts w w') (hT : 114 ∉ Ts) : TupGI w' u n d m f k := by
  obtain ⟨v, h1, h2⟩ := h.form
  exact ⟨v, h1, h2.kept hk hT⟩
structure TupR (V : World) (base : Nat) (u : Value) (n d k : Int) : Prop where
  form : ∃ v, u = .tuple #[v, .int .i64 k] ∧ FracOwn V base v n d
theorem TupR.kept {B : Nat} {Ts : List TypeId} {w w' : World} {base : Nat} {u : Value} {n d k : Int} (h : TupR w base u n d k) (hk : KeptV B Ts w w') (hT : 114 ∉ Ts) : TupR w' base u n d k := by
  obtain ⟨v, h1, h2⟩ := h.form
  exact ⟨v, h1, h2.kept hk hT⟩
structure TupRI (V : World) (u : Value) (n d k : Int) : Prop where
  form : ∃ v, u = .tuple #[v, .int .i64 k] ∧ FracIn V 0 v n d
theorem TupRI.kept {B : Nat} {Ts : List TypeId} {w w' : World} {u : Value} {n d k : Int} (h : TupRI w u n d k) (hk : KeptV B Ts w w') (hT : 114 ∉ Ts) : TupRI w' u n d k := by
  obtain ⟨v, h1, h2⟩ := h.form
  exact ⟨v, h1, h2.kept hk hT⟩
abbrev OpR (F : FuncId) (n d m f N D : Int) : Prop := ∀ (V : World) (v1 v2 : Value), FracAt V v1 n d → FracAt V v2 m f → Calls Tryz.prog F #[v1, v2] V (RetFracOwn V.heap.size V N D)
abbrev OpI (F : FuncId) (n d m f N D : Int) : Prop := ∀ (V : World) (v1 v2 : Value), FracAt V v1 n d → FracAt V v2 m f → Calls Tryz.prog F #[v1, v2] V (RetFracIn V N D)
abbrev OpR1 (F : FuncId) (n d N D : Int) : Prop := ∀ (V : World) (v1 : Value), FracAt V v1 n d → Calls Tryz.prog F #[v1] V (RetFracOwn V.heap.size V N D)
abbrev OpI1 (F : FuncId) (n d N D : Int) : Prop := ∀ (V : World) (v1 : Value), FracAt V v1 n d → Calls Tryz.prog F #[v1] V (RetFracIn V N D)
abbrev OpR0 (F : FuncId) (N D : Int) : Prop := ∀ (V : World), Calls Tryz.prog F #[] V (RetFracOwn V.heap.size V N D)
abbrev OpI0 (F : FuncId) (N D : Int) : Prop := ∀ (V : World), Calls Tryz.prog F #[] V (RetFracIn V N D)
abbrev SgnF (F : FuncId) (n d s : Int) : Prop := ∀ (V : World) (v1 : Value), FracAt V v1 n d → Calls Tryz.prog F #[v1] V fun e w' => e = .returned (.int .i64 s) ∧ Below V.heap.size V w'
abbrev OpGF (F : FuncId) (n d m f p q N D M E : Int) : Prop := ∀ (V : World) (v1 v2 : Value), GaussAt V v1 n d m f → FracAt V v2 p q → Calls Tryz.prog F #[v1, v2] V (RetGaussOwn V.heap.size V N D M E)
abbrev OpG1 (F : FuncId) (n d m f N D M E : Int) : Prop := ∀ (V : World) (v1 : Value), GaussAt V v1 n d m f → Calls Tryz.prog F #[v1] V (RetGaussOwn V.heap.size V N D M E)
abbrev OpGI1 (F : FuncId) (n d m f N D M E : Int) : Prop := ∀ (V : World) (v1 : Value), GaussAt V v1 n d m f → Calls Tryz.prog F #[v1] V (RetGaussIn V N D M E)
abbrev OpN (F : FuncId) (n d m f N D : Int) : Prop := ∀ (V : World) (v1 : Value), GaussAt V v1 n d m f → Calls Tryz.prog F #[v1] V (RetFracOwn V.heap.size V N D)
abbrev OpNI (F : FuncId) (n d m f N D : Int) : Prop := ∀ (V : World) (v1 : Value), GaussAt V v1 n d m f → Calls Tryz.prog F #[v1] V (RetFracIn V N D)
abbrev OpG (F : FuncId) (n d m f p q r s N D M E : Int) : Prop := ∀ (V : World) (v1 v2 : Value), GaussAt V v1 n d m f → GaussAt V v2 p q r s → Calls Tryz.prog F #[v1, v2] V (RetGaussOwn V.heap.size V N D M E)
abbrev OpGI (F : FuncId) (n d m f p q r s N D M E : Int) : Prop := ∀ (V : World) (v1 v2 : Value), GaussAt V v1 n d m f → GaussAt V v2 p q r s → Calls Tryz.prog F #[v1, v2] V (RetGaussIn V N D M E)
/- The operations of package ratio and of the references of chapter 02, as operations of rational numbers; their sizes. (Written by wip/gauss/genratops.py.) -/

structure Sz (q : Rat) (k : Nat) : Prop where
  num : lz q.num ≤ k
  den : lz (q.den : Int) ≤ k
theorem Sz.mono {q : Rat} {k l : Nat} (h : Sz q k) (hl : k ≤ l) : Sz q l := ⟨Nat.le_trans h.num hl, Nat.le_trans h.den hl⟩
theorem Sz.lz {q : Rat} {k : Nat} {n d : Int} (h : Sz q k) (i : Is q n d) : Go.Proofs.YthlehkjcfhnplaaGreatDoor.lz n ≤ k ∧ Go.Proofs.YthlehkjcfhnplaaGreatDoor.lz d ≤ k := by rw [← i.num, ← i.den]; exact ⟨h.num, h.den⟩
theorem Is.sz {q : Rat} {n d : Int} {k : Nat} (i : Is q n d) (h1 : lz n ≤ k) (h2 : lz d ≤ k) : Sz q k := ⟨by rw [i.num]; exact h1, by rw [i.den]; exact h2⟩
theorem Fine.is_ {n d : Int} (f : Fine n d) : Is (Rat.divInt n d) n d ∧ Sz (Rat.divInt n d) 2048 := ⟨fine_is f, (fine_is f).sz f.num f.den⟩
theorem lz_addN (n d m f : Int) : lz (addN n d m f) ≤ max (lz n + lz f) (lz m + lz d) + 1 ∧ lz (addD n d m f) ≤ lz d + lz f := by
  have h1 := lowN_lz (n * f + m * d) (d * f)
  have h2 := lowD_lz (n * f + m * d) (d * f)
  have h3 := lz_add (n * f) (m * d)
  have h4 := lz_mul n f
  have h5 := lz_mul m d
  have h6 := lz_mul d f
  unfold addN addD
  omega
theorem lz_subN (n d m f : Int) : lz (subN n d m f) ≤ max (lz n + lz f) (lz m + lz d) + 1 ∧ lz (subD n d m f) ≤ lz d + lz f := by
  have h1 := lowN_lz (n * f - m * d) (d * f)
  have h2 := lowD_lz (n * f - m * d) (d * f)
  have h3 := lz_sub (n * f) (m * d)
  have h4 := lz_mul n f
  have h5 := lz_mul m d
  have h6 := lz_mul d f
  unfold subN subD
  omega
theorem lz_mulN (n d m f : Int) : lz (mulN n d m f) ≤ lz n + lz m ∧ lz (mulD n d m f) ≤ lz d + lz f := by
  have h1 := lowN_lz (n * m) (d * f)
  have h2 := lowD_lz (n * m) (d * f)
  have h4 := lz_mul n m
  have h6 := lz_mul d f
  unfold mulN mulD
  omega
section
variable {a b : Rat} {k l : Nat}
theorem sz_add (h : Sz a k) (g : Sz b l) : Sz (a + b) (k + l + 1) := by
  have i := is_add (Is.of a) (Is.of b)
  have b1 := lz_addN a.num a.den b.num b.den
  have := h.num
  have := h.den
  have := g.num
  have := g.den
  exact i.sz (by omega) (by omega)
theorem sz_mul (h : Sz a k) (g : Sz b l) : Sz (a * b) (k + l) := by
  have i := is_mul (Is.of a) (Is.of b)
  have b1 := lz_mulN a.num a.den b.num b.den
  have := h.num
  have := h.den
  have := g.num
  have := g.den
  exact i.sz (by omega) (by omega)
end
section
variable {a b : Rat} {n d m f N D : Int}
theorem plus_r (ha : Is a n d) (hb : Is b m f) (hz : Is (a + b) N D) (sa : Sz a 100000000) (sb : Sz b 100000000) : OpR 144 n d m f N D := by
  obtain ⟨rfl, rfl⟩ := hz.uniq (is_add ha hb)
  have l1 := sa.lz ha
  have l2 := sb.lz hb
  intro V v1 v2 g1 g2
  obtain ⟨A, c, B, e0, rfl, a1, a2⟩ := g1.form
  obtain ⟨A2, c2, B2, e2, rfl, a3, a4⟩ := g2.form
  exact ratio_Plus_own n d m f A B A2 B2 c e0 c2 e2 V a1 a2 a3 a4 l1.1 l1.2 l2.1 l2.2 (by have := ha.pos; omega) (by have := hb.pos; omega)
theorem minus_r (ha : Is a n d) (hb : Is b m f) (hz : Is (a - b) N D) (sa : Sz a 100000000) (sb : Sz b 100000000) : OpR 143 n d m f N D := by
  obtain ⟨rfl, rfl⟩ := hz.uniq (is_sub ha hb)
  have l1 := sa.lz ha
  have l2 := sb.lz hb
  intro V v1 v2 g1 g2
  obtain ⟨A, c, B, e0, rfl, a1, a2⟩ := g1.form
  obtain ⟨A2, c2, B2, e2, rfl, a3, a4⟩ := g2.form
  exact ratio_Minus_own n d m f A B A2 B2 c e0 c2 e2 V a1 a2 a3 a4 l1.1 l1.2 l2.1 l2.2 (by have := ha.pos; omega) (by have := hb.pos; omega)
theorem times_r (ha : Is a n d) (hb : Is b m f) (hz : Is (a * b) N D) (sa : Sz a 100000000) (sb : Sz b 100000000) : OpR 136 n d m f N D := by
  obtain ⟨rfl, rfl⟩ := hz.uniq (is_mul ha hb)
  have l1 := sa.lz ha
  have l2 := sb.lz hb
  intro V v1 v2 g1 g2
  obtain ⟨A, c, B, e0, rfl, a1, a2⟩ := g1.form
  obtain ⟨A2, c2, B2, e2, rfl, a3, a4⟩ := g2.form
  exact ratio_Times_own n d m f A B A2 B2 c e0 c2 e2 V a1 a2 a3 a4 l1.1 l1.2 l2.1 l2.2 (by have := ha.pos; omega) (by have := hb.pos; omega)
end
/- Add, Sub, Mul, Quo of package frac. (Written by wip/frac/genfclos2.py.) -/

structure AlwaysAt (f : FuncId) (u : Value) (V : World) : Prop where
  form : ∃ g, u = .func (.func 210) #[] #[.pointer (some ⟨g, 0, none⟩)] ∧ Blk V g 98 #[.func (.func f) #[] #[]]
theorem AlwaysAt.kept {f : FuncId} {u : Value} {V V' : World} {B : Nat} {Ts : List TypeId} (h : AlwaysAt f u V) (k : KeptV B Ts V V') (hT : 98 ∉ Ts) : AlwaysAt f u V' := by
  obtain ⟨g, h1, h2⟩ := h.form
  exact ⟨g, h1, k.blk h2 hT⟩
structure TupF (base : Nat) (n d k : Int) (u : Value) (V : World) : Prop where
  form : ∃ v, u = .tuple #[v, .int .i64 k] ∧ FracOwn V base v n d
theorem TupF.kept {base : Nat} {n d k : Int} {u : Value} {V V' : World} {B : Nat} {Ts : List TypeId} (h : TupF base n d k u V) (hk : KeptV B Ts V V') (hT : 114 ∉ Ts) : TupF base n d k u V' := by
  obtain ⟨v, h1, h2⟩ := h.form
  exact ⟨v, h1, h2.kept hk hT⟩
theorem FracIn.nought (w : World) (base : Nat) : FracIn w base (.agg #[.bool false, .slice none 0 0, .bool false, .slice none 0 0]) 0 0 := ⟨none, 0, none, 0, rfl, IntOwn.nought _ _, IntOwn.nought _ _⟩
structure BlkH (w : World) (g : Nat) (t : TypeId) (cs : Array Value) : Prop where
  blk : Blk w g t cs
theorem BlkH.below {w w' : World} {g : Nat} {t : TypeId} {cs : Array Value} (h : BlkH w g t cs) (hb : Below w.heap.size w w') : BlkH w' g t cs := ⟨h.blk.below hb h.blk.lt⟩

/- Make of the references of chapter 02. (Written by wip/frac/genfmake.py ref.) -/

def RetFrac2 (w : World) (n d k : Int) (e : Ending) (w' : World) : Prop := ∃ v, e = .returned (.tuple #[v, .int .i64 k]) ∧ FracAt w' v n d ∧ Below w.heap.size w w'
theorem FracAt.quad {w : World} {g : Nat} {v : Value} {n d : Int} (h : FracAt w v n d) {b1 b2 : Bool} {A1 A2 : Option Addr} {n1 n2 c1 c2 : Nat} (q : Quad w g (.bool b1) (.slice A1 n1 c1) (.bool b2) (.slice A2 n2 c2)) (x y z u : Value) : FracAt ((((w.setCell ⟨g, 0, none⟩ x).setCell ⟨g, 1, none⟩ y).setCell ⟨g, 2, none⟩ z).setCell ⟨g, 3, none⟩ u) v n d := by
  obtain ⟨A, k, B, e, h1, h2, h3⟩ := h.form
  exact ⟨A, k, B, e, h1, h2.quad q _ _ _ _, h3.quad q _ _ _ _⟩

end Go.Proofs.YthlehkjcfhnplaaGreatDoor
