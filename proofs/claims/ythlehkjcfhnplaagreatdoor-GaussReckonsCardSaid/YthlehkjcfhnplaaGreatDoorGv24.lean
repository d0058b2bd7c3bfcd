/- Several texts in one: Kp, Oct, RatOps, FClos, FRefMake. -/
import Derived.Test.YthlehkjcfhnplaaGreatDoorGv23
set_option maxRecDepth 100000
set_option maxHeartbeats 8000000
namespace Go.Proofs.YthlehkjcfhnplaaGreatDoor
open Go.RowKit

structure Kp (P : World -> Prop) (V : World) : Prop where
 h : P V
 st : ∀ V V', P V -> Below V.heap.size V V' -> P V'
theorem Kp.below {P : World -> Prop} {V V' : World} (k : Kp P V) (hb : Below V.heap.size V V') : Kp P V' := ⟨k.st _ _ k.h hb, k.st⟩
theorem Kp.add {P Q : World -> Prop} {V : World} (k : Kp P V) (q : Q V) (s : ∀ V V', Q V -> Below V.heap.size V V' -> Q V') : Kp (fun V => Q V /\ P V) V :=
 ⟨⟨q, k.h⟩, fun V V' h hb => ⟨s V V' h.1 hb, k.st V V' h.2 hb⟩⟩
theorem Kp.base {w V : World} (h : Below w.heap.size w V) : Kp (fun V => Below w.heap.size w V) V := ⟨h, fun _ _ a b => Zb a b⟩

structure ZF (w : World) (g : Nat) (T : TypeId) (a b c d e f h i : Value) : Prop where
 blk : ZR w g T #[a, b, c, d, e, f, h, i]
section
variable {w w' : World} {g : Nat} {T : TypeId} {a b c d e f h i : Value}
theorem ZF.new (w : World) (T : TypeId) (a b c d e f h i : Value) : ZF (w.alloc (.cells #[a, b, c, d, e, f, h, i] T)) w.heap.size T a b c d e f h i := ⟨ZR.new w _ _⟩
theorem ZF.below (k : ZF w g T a b c d e f h i) (hb : Below w.heap.size w w') : ZF w' g T a b c d e f h i := ⟨k.blk.below hb k.blk.lt⟩
theorem ZF.facts (k : ZF w g T a b c d e f h i) : g < w.heap.size /\ w.cell? ⟨g, 0, none⟩ = some a /\ w.cell? ⟨g, 1, none⟩ = some b /\ w.cell? ⟨g, 2, none⟩ = some c /\ w.cell? ⟨g, 3, none⟩ = some d /\
  w.cell? ⟨g, 4, none⟩ = some e /\ w.cell? ⟨g, 5, none⟩ = some f /\ w.cell? ⟨g, 6, none⟩ = some h /\ w.cell? ⟨g, 7, none⟩ = some i :=
 ⟨k.blk.lt, k.blk.cell 0, k.blk.cell 1, k.blk.cell 2, k.blk.cell 3, k.blk.cell 4, k.blk.cell 5, k.blk.cell 6, k.blk.cell 7⟩
theorem ZF.free (k : ZF w g T a b c d e f h i) : w.frozen? ⟨g, 0, none⟩ = false /\ w.frozen? ⟨g, 1, none⟩ = false /\ w.frozen? ⟨g, 2, none⟩ = false /\ w.frozen? ⟨g, 3, none⟩ = false /\
  w.frozen? ⟨g, 4, none⟩ = false /\ w.frozen? ⟨g, 5, none⟩ = false /\ w.frozen? ⟨g, 6, none⟩ = false /\ w.frozen? ⟨g, 7, none⟩ = false :=
 ⟨k.blk.frozen 0, k.blk.frozen 1, k.blk.frozen 2, k.blk.frozen 3, k.blk.frozen 4, k.blk.frozen 5, k.blk.frozen 6, k.blk.frozen 7⟩
end
theorem set8_far (w : World) (g : Nat) (x0 x1 x2 x3 x4 x5 x6 x7 : Value) (k : Nat) (hk : k ≠ g) : ((((((((w.setCell ⟨g, 0, none⟩ x0).setCell ⟨g, 1, none⟩ x1).setCell ⟨g, 2, none⟩ x2).setCell ⟨g, 3, none⟩ x3).setCell ⟨g, 4, none⟩ x4).setCell ⟨g, 5, none⟩ x5).setCell ⟨g, 6, none⟩ x6).setCell ⟨g, 7, none⟩ x7).heap[k]? = w.heap[k]? := by
 rw [Below.heap_setCell _ ⟨g, 7, none⟩ x7 k hk, Below.heap_setCell _ ⟨g, 6, none⟩ x6 k hk, Below.heap_setCell _ ⟨g, 5, none⟩ x5 k hk, Below.heap_setCell _ ⟨g, 4, none⟩ x4 k hk, Below.heap_setCell _ ⟨g, 3, none⟩ x3 k hk, Below.heap_setCell _ ⟨g, 2, none⟩ x2 k hk, Below.heap_setCell _ ⟨g, 1, none⟩ x1 k hk, Below.heap_setCell _ ⟨g, 0, none⟩ x0 k hk]
theorem below8 {W w : World} {B g : Nat} (h : Below B W w) (hg : B <= g) (x0 x1 x2 x3 x4 x5 x6 x7 : Value) : Below B W ((((((((w.setCell ⟨g, 0, none⟩ x0).setCell ⟨g, 1, none⟩ x1).setCell ⟨g, 2, none⟩ x2).setCell ⟨g, 3, none⟩ x3).setCell ⟨g, 4, none⟩ x4).setCell ⟨g, 5, none⟩ x5).setCell ⟨g, 6, none⟩ x6).setCell ⟨g, 7, none⟩ x7) :=
 ((((((((h.setCell (p := ⟨g, 0, none⟩) hg x0).setCell (p := ⟨g, 1, none⟩) hg x1).setCell (p := ⟨g, 2, none⟩) hg x2).setCell (p := ⟨g, 3, none⟩) hg x3).setCell (p := ⟨g, 4, none⟩) hg x4).setCell (p := ⟨g, 5, none⟩) hg x5).setCell (p := ⟨g, 6, none⟩) hg x6).setCell (p := ⟨g, 7, none⟩) hg x7)
theorem ZF.store {w : World} {g : Nat} {T : TypeId} {a b c d e f h i : Value} (k : ZF w g T a b c d e f h i) (x0 x1 x2 x3 x4 x5 x6 x7 : Value) : ZF ((((((((w.setCell ⟨g, 0, none⟩ x0).setCell ⟨g, 1, none⟩ x1).setCell ⟨g, 2, none⟩ x2).setCell ⟨g, 3, none⟩ x3).setCell ⟨g, 4, none⟩ x4).setCell ⟨g, 5, none⟩ x5).setCell ⟨g, 6, none⟩ x6).setCell ⟨g, 7, none⟩ x7) g T x0 x1 x2 x3 x4 x5 x6 x7 := by
 have key := ((((((((k.blk.set_ 0 x0).set_ 1 x1).set_ 2 x2).set_ 3 x3).set_ 4 x4).set_ 5 x5).set_ 6 x6).set_ 7 x7)
 have e9 : ((((((((#[a, b, c, d, e, f, h, i].setIfInBounds 0 x0).setIfInBounds 1 x1).setIfInBounds 2 x2).setIfInBounds 3 x3).setIfInBounds 4 x4).setIfInBounds 5 x5).setIfInBounds 6 x6).setIfInBounds 7 x7) = #[x0, x1, x2, x3, x4, x5, x6, x7] := by simp
 rw [e9] at key
 exact ⟨key⟩
theorem Zf.other {w w' : World} {base g : Nat} {v : Value} {n : Int} {T : TypeId} {cs : Array Value} (hi : Zf w base v n) (hb : ZR w g T cs) (hT : 114 ≠ T) (hw : ∀ k, k ≠ g -> w'.heap[k]? = w.heap[k]?) : Zf w' base v n := by
 obtain ⟨A', c', a1, a2, a3, a4⟩ := hi.form
 have hne := YO a4 hb hT
 refine ⟨A', c', a1, a2, a3, a4.1, ?_⟩
 rcases a4.2 with p | ⟨g', cap, cur, p1, p2, p3, p4⟩
 . exact .inl p
 . refine .inr ⟨g', cap, cur, p1, p2, ?_, p4⟩
   have hg : g' ≠ g := fun e => by
    rw [p1] at hne
    exact hne (by simp [Value.ownBlock, e])
   rw [hw g' hg]
   exact p3
theorem Zk.other {w w' : World} {base g : Nat} {v : Value} {n d : Int} {T : TypeId} {cs : Array Value} (h : Zk w base v n d) (hb : ZR w g T cs) (hT : 114 ≠ T) (hw : ∀ k, k ≠ g -> w'.heap[k]? = w.heap[k]?) : Zk w' base v n d := by
 obtain ⟨A, c, B, e, h1, h2, h3, h4⟩ := h.form
 exact ⟨A, c, B, e, h1, h2.other hb hT hw, h3.other hb hT hw, h4⟩
theorem ZH.other {w w' : World} {base g : Nat} {v : Value} {n d : Int} {T : TypeId} {cs : Array Value} (h : ZH w base v n d) (hb : ZR w g T cs) (hT : 114 ≠ T) (hw : ∀ k, k ≠ g -> w'.heap[k]? = w.heap[k]?) : ZH w' base v n d := by
 obtain ⟨A, c, B, e, h1, h2, h3⟩ := h.form
 exact ⟨A, c, B, e, h1, h2.other hb hT hw, h3.other hb hT hw⟩
structure Cell1 (w : World) (b : Nat) (T : TypeId) (v : Value) : Prop where
 blk : ZR w b T #[v]
theorem Y7 {w : World} {c1 : Array Value} {T1 : TypeId} {P : World -> Prop} (h : ∀ W, ZR W w.heap.size T1 c1 -> Below w.heap.size w W -> P W) : P (w.alloc (.cells c1 T1)) := h _ (ZR.new w _ _) ((Below.refl _ _).alloc (Nat.le_refl _) _)
theorem XG {w : World} {c1 c2 : Array Value} {T1 T2 : TypeId} {P : World -> Prop} (h : ∀ W, ZR W w.heap.size T1 c1 -> ZR W (w.heap.size + 1) T2 c2 -> Below w.heap.size w W -> P W) : P ((w.alloc (.cells c1 T1)).alloc (.cells c2 T2)) := by
 have k := ZR.new (w.alloc (.cells c1 T1)) T2 c2
 rw [World.size_alloc] at k
 exact h _ ((ZR.new w _ _).alloc _) k (((Below.refl _ _).alloc (Nat.le_refl _) _).alloc (by simp) _)
theorem Z0 {w : World} {c1 c2 c3 : Array Value} {T1 T2 T3 : TypeId} {P : World -> Prop} (h : ∀ W, ZR W w.heap.size T1 c1 -> ZR W (w.heap.size + 1) T2 c2 -> ZR W (w.heap.size + 1 + 1) T3 c3 -> Below w.heap.size w W -> P W) : P (((w.alloc (.cells c1 T1)).alloc (.cells c2 T2)).alloc (.cells c3 T3)) := by
 refine XG (w := w) (c1 := c1) (T1 := T1) (c2 := c2) (T2 := T2) (P := fun V => V.heap.size = w.heap.size + 1 + 1 -> P (V.alloc (.cells c3 T3))) (fun V h1 h2 h3 hz => ?_) (by simp)
 have k := ZR.new V T3 c3
 rw [hz] at k
 exact h _ (h1.alloc _) (h2.alloc _) k (h3.alloc (by omega) _)
def Yb (v : Value) (g : Nat) : Prop := ∃ b1 A k c b2 B l e, v = .agg #[.bool b1, .slice A k c, .bool b2, .slice B l e] /\ ((Value.slice A k c).ownBlock = some g ∨ (Value.slice B l e).ownBlock = some g)
theorem Yb.at {b1 b2 : Bool} {A B : Option Addr} {k c l e g : Nat} (h : Yb (.agg #[.bool b1, .slice A k c, .bool b2, .slice B l e]) g) : (Value.slice A k c).ownBlock = some g ∨ (Value.slice B l e).ownBlock = some g := by
 obtain ⟨c1, A', k', c', c2, B', l', e', h1, h2⟩ := h
 simp only [Value.agg.injEq, Array.mk.injEq, List.cons.injEq, Value.slice.injEq, and_true] at h1
 obtain ⟨-, ⟨rfl, rfl, rfl⟩, -, rfl, rfl, rfl⟩ := h1
 exact h2
theorem Yb.of {b1 b2 : Bool} {A B : Option Addr} {k c l e g : Nat} (h : (Value.slice A k c).ownBlock = some g ∨ (Value.slice B l e).ownBlock = some g) : Yb (.agg #[.bool b1, .slice A k c, .bool b2, .slice B l e]) g := ⟨_, _, _, _, _, _, _, _, rfl, h⟩
theorem Zk.mine {w : World} {base : Nat} {v : Value} {n d : Int} (h : Zk w base v n d) : ∀ g, Yb v g -> base <= g /\ g < w.heap.size := by
 obtain ⟨A, c, B, e, rfl, h1, h2, -⟩ := h.form
 intro g hg
 rcases hg.at with h3 | h3
 . exact h1.mine g h3
 . exact h2.mine g h3
theorem Zk.in_ {w : World} {base : Nat} {v : Value} {n d : Int} (h : Zk w base v n d) : ZH w 0 v n d := by
 obtain ⟨A, c, B, e, h1, h2, h3, -⟩ := h.form
 exact ⟨A, c, B, e, h1, h2.base (Nat.zero_le _), h3.base (Nat.zero_le _)⟩
structure Zh (w : World) (v : Value) (n d m f : Int) : Prop where
 form : ∃ A c B e A2 c2 B2 e2, v = .agg #[.bool (decide (n < 0)), .slice A (Za n.natAbs).length c, .bool (decide (d < 0)), .slice B (Za d.natAbs).length e, .bool (decide (m < 0)), .slice A2 (Za m.natAbs).length c2, .bool (decide (f < 0)), .slice B2 (Za f.natAbs).length e2] /\
  Zj w A c (Za n.natAbs) /\ Zj w B e (Za d.natAbs) /\ Zj w A2 c2 (Za m.natAbs) /\ Zj w B2 e2 (Za f.natAbs)
theorem Zh.below {w w' : World} {v : Value} {n d m f : Int} (h : Zh w v n d m f) (hb : Below w.heap.size w w') : Zh w' v n d m f := by
 obtain ⟨A, c, B, e, A2, c2, B2, e2, h1, h2, h3, h4, h5⟩ := h.form
 exact ⟨A, c, B, e, A2, c2, B2, e2, h1, h2.below hb, h3.below hb, h4.below hb, h5.below hb⟩
structure ZU (w : World) (v : Value) (n d m f : Int) : Prop where
 form : ∃ A c B e A2 c2 B2 e2, v = .agg #[.bool (decide (n < 0)), .slice A (Za n.natAbs).length c, .bool (decide (d < 0)), .slice B (Za d.natAbs).length e, .bool (decide (m < 0)), .slice A2 (Za m.natAbs).length c2, .bool (decide (f < 0)), .slice B2 (Za f.natAbs).length e2] /\
  ZH w 0 (.agg #[.bool (decide (n < 0)), .slice A (Za n.natAbs).length c, .bool (decide (d < 0)), .slice B (Za d.natAbs).length e]) n d /\ ZH w 0 (.agg #[.bool (decide (m < 0)), .slice A2 (Za m.natAbs).length c2, .bool (decide (f < 0)), .slice B2 (Za f.natAbs).length e2]) m f
theorem ZH.raws {w : World} {base c e : Nat} {A B : Option Addr} {n d : Int} (h : ZH w base (.agg #[.bool (decide (n < 0)), .slice A (Za n.natAbs).length c, .bool (decide (d < 0)), .slice B (Za d.natAbs).length e]) n d) : Zj w A c (Za n.natAbs) /\ Zj w B e (Za d.natAbs) := by
 obtain ⟨A', c', B', e', h1, h2, h3⟩ := h.form
 simp only [Value.agg.injEq, Array.mk.injEq, List.cons.injEq, Value.slice.injEq, and_true, true_and] at h1
 obtain ⟨⟨rfl, rfl⟩, rfl, rfl⟩ := h1
 exact ⟨h2.rawAt, h3.rawAt⟩
theorem ZU.at_ {w : World} {v : Value} {n d m f : Int} (h : ZU w v n d m f) : Zh w v n d m f := by
 obtain ⟨A, c, B, e, A2, c2, B2, e2, h1, h2, h3⟩ := h.form
 exact ⟨A, c, B, e, A2, c2, B2, e2, h1, h2.raws.1, h2.raws.2, h3.raws.1, h3.raws.2⟩
theorem ZU.kept {B : Nat} {Ts : List TypeId} {w w' : World} {v : Value} {n d m f : Int} (h : ZU w v n d m f) (k : Zr B Ts w w') (hT : 114 ∉ Ts) : ZU w' v n d m f := by
 obtain ⟨A, c, B, e, A2, c2, B2, e2, h1, h2, h3⟩ := h.form
 exact ⟨A, c, B, e, A2, c2, B2, e2, h1, h2.kept k hT, h3.kept k hT⟩
theorem ZU.below {w w' : World} {v : Value} {n d m f : Int} (h : ZU w v n d m f) (hb : Below w.heap.size w w') : ZU w' v n d m f := by
 obtain ⟨A, c, B, e, A2, c2, B2, e2, h1, h2, h3⟩ := h.form
 exact ⟨A, c, B, e, A2, c2, B2, e2, h1, h2.below hb, h3.below hb⟩
theorem ZU.cells {w : World} {v : Value} {n d m f : Int} (h : ZU w v n d m f) : X4 v 8 := by
 obtain ⟨A, c, B, e, A2, c2, B2, e2, rfl, -⟩ := h.form
 exact ⟨rfl, by simp [Value.cells, Value.oneCell']⟩
structure Zt (w : World) (base : Nat) (v : Value) (n d m f : Int) : Prop where
 form : ∃ A c B e A2 c2 B2 e2, v = .agg #[.bool (decide (n < 0)), .slice A (Za n.natAbs).length c, .bool (decide (d < 0)), .slice B (Za d.natAbs).length e, .bool (decide (m < 0)), .slice A2 (Za m.natAbs).length c2, .bool (decide (f < 0)), .slice B2 (Za f.natAbs).length e2] /\
  Zk w base (.agg #[.bool (decide (n < 0)), .slice A (Za n.natAbs).length c, .bool (decide (d < 0)), .slice B (Za d.natAbs).length e]) n d /\ Zk w base (.agg #[.bool (decide (m < 0)), .slice A2 (Za m.natAbs).length c2, .bool (decide (f < 0)), .slice B2 (Za f.natAbs).length e2]) m f /\
  ∀ g, Yb (.agg #[.bool (decide (n < 0)), .slice A (Za n.natAbs).length c, .bool (decide (d < 0)), .slice B (Za d.natAbs).length e]) g -> ¬ Yb (.agg #[.bool (decide (m < 0)), .slice A2 (Za m.natAbs).length c2, .bool (decide (f < 0)), .slice B2 (Za f.natAbs).length e2]) g
theorem Zt.in_ {w : World} {base : Nat} {v : Value} {n d m f : Int} (h : Zt w base v n d m f) : ZU w v n d m f := by
 obtain ⟨A, c, B, e, A2, c2, B2, e2, h1, h2, h3, -⟩ := h.form
 exact ⟨A, c, B, e, A2, c2, B2, e2, h1, h2.in_, h3.in_⟩
theorem Zt.cells {w : World} {base : Nat} {v : Value} {n d m f : Int} (h : Zt w base v n d m f) : X4 v 8 := h.in_.cells
theorem Zt.kept {B : Nat} {Ts : List TypeId} {w w' : World} {base : Nat} {v : Value} {n d m f : Int} (h : Zt w base v n d m f) (k : Zr B Ts w w') (hT : 114 ∉ Ts) : Zt w' base v n d m f := by
 obtain ⟨A, c, B, e, A2, c2, B2, e2, h1, h2, h3, h4⟩ := h.form
 exact ⟨A, c, B, e, A2, c2, B2, e2, h1, h2.kept k hT, h3.kept k hT, h4⟩
theorem Zt.below {w w' : World} {base : Nat} {v : Value} {n d m f : Int} (h : Zt w base v n d m f) (hb : Below w.heap.size w w') : Zt w' base v n d m f := by
 obtain ⟨A, c, B, e, A2, c2, B2, e2, h1, h2, h3, h4⟩ := h.form
 exact ⟨A, c, B, e, A2, c2, B2, e2, h1, h2.below hb, h3.below hb, h4⟩
theorem Zt.base {w : World} {b b' : Nat} {v : Value} {n d m f : Int} (h : Zt w b v n d m f) (hb : b' <= b) : Zt w b' v n d m f := by
 obtain ⟨A, c, B, e, A2, c2, B2, e2, h1, h2, h3, h4⟩ := h.form
 exact ⟨A, c, B, e, A2, c2, B2, e2, h1, h2.base hb, h3.base hb, h4⟩
theorem Zt.nought (w : World) (base : Nat) : Zt w base (.agg #[.bool false, .slice none 0 0, .bool false, .slice none 0 0, .bool false, .slice none 0 0, .bool false, .slice none 0 0]) 0 0 0 0 :=
 ⟨none, 0, none, 0, none, 0, none, 0, rfl, Zk.nought _ _, Zk.nought _ _, fun g hg => by rcases hg.at with h | h <;> cases h⟩
theorem Zt.oct {w : World} {base g : Nat} {v : Value} {n d m f : Int} {T : TypeId} {a b c e h i j k : Value} (q : Zt w base v n d m f) (o : ZF w g T a b c e h i j k) (hT : 114 ≠ T) (x0 x1 x2 x3 x4 x5 x6 x7 : Value) : Zt ((((((((w.setCell ⟨g, 0, none⟩ x0).setCell ⟨g, 1, none⟩ x1).setCell ⟨g, 2, none⟩ x2).setCell ⟨g, 3, none⟩ x3).setCell ⟨g, 4, none⟩ x4).setCell ⟨g, 5, none⟩ x5).setCell ⟨g, 6, none⟩ x6).setCell ⟨g, 7, none⟩ x7) base v n d m f := by
 obtain ⟨A, c, B, e, A2, c2, B2, e2, h1, h2, h3, h4⟩ := q.form
 exact ⟨A, c, B, e, A2, c2, B2, e2, h1, h2.other o.blk hT (set8_far w g x0 x1 x2 x3 x4 x5 x6 x7), h3.other o.blk hT (set8_far w g x0 x1 x2 x3 x4 x5 x6 x7), h4⟩
theorem ZU.oct {w : World} {g : Nat} {v : Value} {n d m f : Int} {T : TypeId} {a b c e h i j k : Value} (q : ZU w v n d m f) (o : ZF w g T a b c e h i j k) (hT : 114 ≠ T) (x0 x1 x2 x3 x4 x5 x6 x7 : Value) : ZU ((((((((w.setCell ⟨g, 0, none⟩ x0).setCell ⟨g, 1, none⟩ x1).setCell ⟨g, 2, none⟩ x2).setCell ⟨g, 3, none⟩ x3).setCell ⟨g, 4, none⟩ x4).setCell ⟨g, 5, none⟩ x5).setCell ⟨g, 6, none⟩ x6).setCell ⟨g, 7, none⟩ x7) v n d m f := by
 obtain ⟨A, c, B, e, A2, c2, B2, e2, h1, h2, h3⟩ := q.form
 exact ⟨A, c, B, e, A2, c2, B2, e2, h1, h2.other o.blk hT (set8_far w g x0 x1 x2 x3 x4 x5 x6 x7), h3.other o.blk hT (set8_far w g x0 x1 x2 x3 x4 x5 x6 x7)⟩
def ZN (base : Nat) (w : World) (n d m f : Int) (e : Ending) (w' : World) : Prop := ∃ v, e = .returned v /\ Zt w' base v n d m f /\ Below w.heap.size w w'
def ZC (base : Nat) (w : World) (n d m f k : Int) (e : Ending) (w' : World) : Prop := ∃ v, e = .returned (.tuple #[v, .int .i64 k]) /\ Zt w' base v n d m f /\ Below w.heap.size w w'
def Y9 (w : World) (n d m f : Int) (e : Ending) (w' : World) : Prop := ∃ v, e = .returned v /\ ZU w' v n d m f /\ Below w.heap.size w w'
def Z5 (w : World) (n d m f k : Int) (e : Ending) (w' : World) : Prop := ∃ v, e = .returned (.tuple #[v, .int .i64 k]) /\ ZU w' v n d m f /\ Below w.heap.size w w'
structure FracRaw (w : World) (v : Value) (n1 n2 : Bool) (xs ys : List Nat) : Prop where
 form : ∃ A c B e, v = .agg #[.bool n1, .slice A xs.length c, .bool n2, .slice B ys.length e] /\ Zj w A c xs /\ Zj w B e ys
structure Zn (w : World) (v : Value) (n1 n2 n3 n4 : Bool) (xs ys us vs : List Nat) : Prop where
 form : ∃ A c B e A2 c2 B2 e2, v = .agg #[.bool n1, .slice A xs.length c, .bool n2, .slice B ys.length e, .bool n3, .slice A2 us.length c2, .bool n4, .slice B2 vs.length e2] /\ Zj w A c xs /\ Zj w B e ys /\ Zj w A2 c2 us /\ Zj w B2 e2 vs
theorem Zh.raw {w : World} {v : Value} {n d m f : Int} (h : Zh w v n d m f) : Zn w v (decide (n < 0)) (decide (d < 0)) (decide (m < 0)) (decide (f < 0)) (Za n.natAbs) (Za d.natAbs) (Za m.natAbs) (Za f.natAbs) := ⟨h.form⟩
section
variable {w w' : World} {c e k l : Nat} {n d m f : Int} {A B C D : Option Addr}
theorem Zh.raws (h : Zh w (.agg #[.bool (decide (n < 0)), .slice A (Za n.natAbs).length c, .bool (decide (d < 0)), .slice B (Za d.natAbs).length e, .bool (decide (m < 0)), .slice C (Za m.natAbs).length k, .bool (decide (f < 0)), .slice D (Za f.natAbs).length l]) n d m f) : Zj w A c (Za n.natAbs) /\ Zj w B e (Za d.natAbs) /\ Zj w C k (Za m.natAbs) /\ Zj w D l (Za f.natAbs) := by
 obtain ⟨A1, k1, A2, k2, A3, k3, A4, k4, h1, h2, h3, h4, h5⟩ := h.form
 simp only [Value.agg.injEq, Array.mk.injEq, List.cons.injEq, Value.slice.injEq, and_true, true_and] at h1
 obtain ⟨⟨rfl, rfl⟩, ⟨rfl, rfl⟩, ⟨rfl, rfl⟩, rfl, rfl⟩ := h1
 exact ⟨h2, h3, h4, h5⟩
theorem Zh.re (h : Zh w (.agg #[.bool (decide (n < 0)), .slice A (Za n.natAbs).length c, .bool (decide (d < 0)), .slice B (Za d.natAbs).length e, .bool (decide (m < 0)), .slice C (Za m.natAbs).length k, .bool (decide (f < 0)), .slice D (Za f.natAbs).length l]) n d m f) : Yc w (.agg #[.bool (decide (n < 0)), .slice A (Za n.natAbs).length c, .bool (decide (d < 0)), .slice B (Za d.natAbs).length e]) n d := ⟨_, _, _, _, rfl, h.raws.1, h.raws.2.1⟩
theorem Zh.im (h : Zh w (.agg #[.bool (decide (n < 0)), .slice A (Za n.natAbs).length c, .bool (decide (d < 0)), .slice B (Za d.natAbs).length e, .bool (decide (m < 0)), .slice C (Za m.natAbs).length k, .bool (decide (f < 0)), .slice D (Za f.natAbs).length l]) n d m f) : Yc w (.agg #[.bool (decide (m < 0)), .slice C (Za m.natAbs).length k, .bool (decide (f < 0)), .slice D (Za f.natAbs).length l]) m f := ⟨_, _, _, _, rfl, h.raws.2.2.1, h.raws.2.2.2⟩
theorem Yc.raws (h : Yc w (.agg #[.bool (decide (n < 0)), .slice A (Za n.natAbs).length c, .bool (decide (d < 0)), .slice B (Za d.natAbs).length e]) n d) : Zj w A c (Za n.natAbs) /\ Zj w B e (Za d.natAbs) := by
 obtain ⟨A', c', B', e', h1, h2, h3⟩ := h.form
 simp only [Value.agg.injEq, Array.mk.injEq, List.cons.injEq, Value.slice.injEq, and_true, true_and] at h1
 obtain ⟨⟨rfl, rfl⟩, rfl, rfl⟩ := h1
 exact ⟨h2, h3⟩
end
section
variable {w w' : World} {v : Value} {n1 n2 n3 n4 : Bool} {xs ys us vs : List Nat} {c e k l : Nat} {A B C D : Option Addr}
theorem Zn.below (h : Zn w v n1 n2 n3 n4 xs ys us vs) (hb : Below w.heap.size w w') : Zn w' v n1 n2 n3 n4 xs ys us vs := by
 obtain ⟨A1, k1, A2, k2, A3, k3, A4, k4, h1, h2, h3, h4, h5⟩ := h.form
 exact ⟨A1, k1, A2, k2, A3, k3, A4, k4, h1, h2.below hb, h3.below hb, h4.below hb, h5.below hb⟩
theorem Zn.raws (h : Zn w (.agg #[.bool n1, .slice A xs.length c, .bool n2, .slice B ys.length e, .bool n3, .slice C us.length k, .bool n4, .slice D vs.length l]) n1 n2 n3 n4 xs ys us vs) : Zj w A c xs /\ Zj w B e ys /\ Zj w C k us /\ Zj w D l vs := by
 obtain ⟨A1, k1, A2, k2, A3, k3, A4, k4, h1, h2, h3, h4, h5⟩ := h.form
 simp only [Value.agg.injEq, Array.mk.injEq, List.cons.injEq, Value.slice.injEq, and_true, true_and] at h1
 obtain ⟨⟨rfl, rfl⟩, ⟨rfl, rfl⟩, ⟨rfl, rfl⟩, rfl, rfl⟩ := h1
 exact ⟨h2, h3, h4, h5⟩
end
theorem Y0 {W w : World} {B g base : Nat} {T : TypeId} {a b c d e f h i x0 x1 x2 x3 x4 x5 x6 x7 : Value} {N D M E : Int} (q : Zt w base (.agg #[x0, x1, x2, x3, x4, x5, x6, x7]) N D M E) (o : ZF w g T a b c d e f h i) (hb : Below B W w) (hg : B <= g) (hT : 114 ≠ T) :
 ZF ((((((((w.setCell ⟨g, 0, none⟩ x0).setCell ⟨g, 1, none⟩ x1).setCell ⟨g, 2, none⟩ x2).setCell ⟨g, 3, none⟩ x3).setCell ⟨g, 4, none⟩ x4).setCell ⟨g, 5, none⟩ x5).setCell ⟨g, 6, none⟩ x6).setCell ⟨g, 7, none⟩ x7) g T x0 x1 x2 x3 x4 x5 x6 x7 /\ Below B W ((((((((w.setCell ⟨g, 0, none⟩ x0).setCell ⟨g, 1, none⟩ x1).setCell ⟨g, 2, none⟩ x2).setCell ⟨g, 3, none⟩ x3).setCell ⟨g, 4, none⟩ x4).setCell ⟨g, 5, none⟩ x5).setCell ⟨g, 6, none⟩ x6).setCell ⟨g, 7, none⟩ x7) /\ Zt ((((((((w.setCell ⟨g, 0, none⟩ x0).setCell ⟨g, 1, none⟩ x1).setCell ⟨g, 2, none⟩ x2).setCell ⟨g, 3, none⟩ x3).setCell ⟨g, 4, none⟩ x4).setCell ⟨g, 5, none⟩ x5).setCell ⟨g, 6, none⟩ x6).setCell ⟨g, 7, none⟩ x7) base (.agg #[x0, x1, x2, x3, x4, x5, x6, x7]) N D M E := ⟨o.store x0 x1 x2 x3 x4 x5 x6 x7, below8 hb hg x0 x1 x2 x3 x4 x5 x6 x7, q.oct o hT x0 x1 x2 x3 x4 x5 x6 x7⟩
theorem istore {W w : World} {B g : Nat} {T : TypeId} {a b c d e f h i x0 x1 x2 x3 x4 x5 x6 x7 : Value} {N D M E : Int} (q : ZU w (.agg #[x0, x1, x2, x3, x4, x5, x6, x7]) N D M E) (o : ZF w g T a b c d e f h i) (hb : Below B W w) (hg : B <= g) (hT : 114 ≠ T) :
 ZF ((((((((w.setCell ⟨g, 0, none⟩ x0).setCell ⟨g, 1, none⟩ x1).setCell ⟨g, 2, none⟩ x2).setCell ⟨g, 3, none⟩ x3).setCell ⟨g, 4, none⟩ x4).setCell ⟨g, 5, none⟩ x5).setCell ⟨g, 6, none⟩ x6).setCell ⟨g, 7, none⟩ x7) g T x0 x1 x2 x3 x4 x5 x6 x7 /\ Below B W ((((((((w.setCell ⟨g, 0, none⟩ x0).setCell ⟨g, 1, none⟩ x1).setCell ⟨g, 2, none⟩ x2).setCell ⟨g, 3, none⟩ x3).setCell ⟨g, 4, none⟩ x4).setCell ⟨g, 5, none⟩ x5).setCell ⟨g, 6, none⟩ x6).setCell ⟨g, 7, none⟩ x7) /\ ZU ((((((((w.setCell ⟨g, 0, none⟩ x0).setCell ⟨g, 1, none⟩ x1).setCell ⟨g, 2, none⟩ x2).setCell ⟨g, 3, none⟩ x3).setCell ⟨g, 4, none⟩ x4).setCell ⟨g, 5, none⟩ x5).setCell ⟨g, 6, none⟩ x6).setCell ⟨g, 7, none⟩ x7) (.agg #[x0, x1, x2, x3, x4, x5, x6, x7]) N D M E := ⟨o.store x0 x1 x2 x3 x4 x5 x6 x7, below8 hb hg x0 x1 x2 x3 x4 x5 x6 x7, q.oct o hT x0 x1 x2 x3 x4 x5 x6 x7⟩
theorem gzero {W w : World} {B g : Nat} {T : TypeId} {a b c d e f h i : Value} (o : ZF w g T a b c d e f h i) (hb : Below B W w) (hg : B <= g) :
 ZF ((((((((w.setCell ⟨g, 0, none⟩ (.bool false)).setCell ⟨g, 1, none⟩ (.slice none 0 0)).setCell ⟨g, 2, none⟩ (.bool false)).setCell ⟨g, 3, none⟩ (.slice none 0 0)).setCell ⟨g, 4, none⟩ (.bool false)).setCell ⟨g, 5, none⟩ (.slice none 0 0)).setCell ⟨g, 6, none⟩ (.bool false)).setCell ⟨g, 7, none⟩ (.slice none 0 0)) g T (.bool false) (.slice none 0 0) (.bool false) (.slice none 0 0) (.bool false) (.slice none 0 0) (.bool false) (.slice none 0 0) /\ Below B W ((((((((w.setCell ⟨g, 0, none⟩ (.bool false)).setCell ⟨g, 1, none⟩ (.slice none 0 0)).setCell ⟨g, 2, none⟩ (.bool false)).setCell ⟨g, 3, none⟩ (.slice none 0 0)).setCell ⟨g, 4, none⟩ (.bool false)).setCell ⟨g, 5, none⟩ (.slice none 0 0)).setCell ⟨g, 6, none⟩ (.bool false)).setCell ⟨g, 7, none⟩ (.slice none 0 0)) := ⟨o.store (.bool false) (.slice none 0 0) (.bool false) (.slice none 0 0) (.bool false) (.slice none 0 0) (.bool false) (.slice none 0 0), below8 hb hg (.bool false) (.slice none 0 0) (.bool false) (.slice none 0 0) (.bool false) (.slice none 0 0) (.bool false) (.slice none 0 0)⟩
structure GV (w : World) (g : Nat) (T : TypeId) (n d m f : Int) (A : Option Addr) (c : Nat) (B : Option Addr) (e : Nat) (C : Option Addr) (k : Nat) (D : Option Addr) (l : Nat) : Prop where
 oct : ZF w g T (.bool (decide (n < 0))) (.slice A (Za n.natAbs).length c) (.bool (decide (d < 0))) (.slice B (Za d.natAbs).length e) (.bool (decide (m < 0))) (.slice C (Za m.natAbs).length k) (.bool (decide (f < 0))) (.slice D (Za f.natAbs).length l)
 at_ : Zh w (.agg #[.bool (decide (n < 0)), .slice A (Za n.natAbs).length c, .bool (decide (d < 0)), .slice B (Za d.natAbs).length e, .bool (decide (m < 0)), .slice C (Za m.natAbs).length k, .bool (decide (f < 0)), .slice D (Za f.natAbs).length l]) n d m f
section
variable {w w' : World} {g c e k l : Nat} {T : TypeId} {n d m f : Int} {A B C D : Option Addr}
theorem GV.below (h : GV w g T n d m f A c B e C k D l) (hb : Below w.heap.size w w') : GV w' g T n d m f A c B e C k D l := ⟨h.oct.below hb, h.at_.below hb⟩
theorem GV.new (T : TypeId) (h : Zh w (.agg #[.bool (decide (n < 0)), .slice A (Za n.natAbs).length c, .bool (decide (d < 0)), .slice B (Za d.natAbs).length e, .bool (decide (m < 0)), .slice C (Za m.natAbs).length k, .bool (decide (f < 0)), .slice D (Za f.natAbs).length l]) n d m f) : GV (w.alloc (.cells #[.bool (decide (n < 0)), .slice A (Za n.natAbs).length c, .bool (decide (d < 0)), .slice B (Za d.natAbs).length e, .bool (decide (m < 0)), .slice C (Za m.natAbs).length k, .bool (decide (f < 0)), .slice D (Za f.natAbs).length l] T)) w.heap.size T n d m f A c B e C k D l := ⟨ZF.new w T _ _ _ _ _ _ _ _, h.below ((Below.refl _ _).alloc (Nat.le_refl _) _)⟩
end
structure TupG (V : World) (base : Nat) (u : Value) (n d m f k : Int) : Prop where
 form : ∃ v, u = .tuple #[v, .int .i64 k] /\ Zt V base v n d m f
theorem TupG.kept {B : Nat} {Ts : List TypeId} {w w' : World} {base : Nat} {u : Value} {n d m f k : Int} (h : TupG w base u n d m f k) (hk : Zr B Ts w w') (hT : 114 ∉ Ts) : TupG w' base u n d m f k := by
 obtain ⟨v, h1, h2⟩ := h.form
 exact ⟨v, h1, h2.kept hk hT⟩
structure TupGI (V : World) (u : Value) (n d m f k : Int) : Prop where
 form : ∃ v, u = .tuple #[v, .int .i64 k] /\ ZU V v n d m f
structure TupR (V : World) (base : Nat) (u : Value) (n d k : Int) : Prop where
 form : ∃ v, u = .tuple #[v, .int .i64 k] /\ Zk V base v n d
structure TupRI (V : World) (u : Value) (n d k : Int) : Prop where
 form : ∃ v, u = .tuple #[v, .int .i64 k] /\ ZH V 0 v n d
abbrev OpR (F : FuncId) (n d m f N D : Int) : Prop := ∀ (V : World) (v1 v2 : Value), Yc V v1 n d -> Yc V v2 m f -> Calls Tryz.prog F #[v1, v2] V (ZP V.heap.size V N D)
abbrev OpI (F : FuncId) (n d m f N D : Int) : Prop := ∀ (V : World) (v1 v2 : Value), Yc V v1 n d -> Yc V v2 m f -> Calls Tryz.prog F #[v1, v2] V (YJ V N D)
abbrev OpR1 (F : FuncId) (n d N D : Int) : Prop := ∀ (V : World) (v1 : Value), Yc V v1 n d -> Calls Tryz.prog F #[v1] V (ZP V.heap.size V N D)
abbrev OpI1 (F : FuncId) (n d N D : Int) : Prop := ∀ (V : World) (v1 : Value), Yc V v1 n d -> Calls Tryz.prog F #[v1] V (YJ V N D)
abbrev OpR0 (F : FuncId) (N D : Int) : Prop := ∀ (V : World), Calls Tryz.prog F #[] V (ZP V.heap.size V N D)
abbrev OpI0 (F : FuncId) (N D : Int) : Prop := ∀ (V : World), Calls Tryz.prog F #[] V (YJ V N D)
abbrev SgnF (F : FuncId) (n d s : Int) : Prop := ∀ (V : World) (v1 : Value), Yc V v1 n d -> Calls Tryz.prog F #[v1] V fun e w' => e = .returned (.int .i64 s) /\ Below V.heap.size V w'
abbrev OpGF (F : FuncId) (n d m f p q N D M E : Int) : Prop := ∀ (V : World) (v1 v2 : Value), Zh V v1 n d m f -> Yc V v2 p q -> Calls Tryz.prog F #[v1, v2] V (ZN V.heap.size V N D M E)
abbrev OpG1 (F : FuncId) (n d m f N D M E : Int) : Prop := ∀ (V : World) (v1 : Value), Zh V v1 n d m f -> Calls Tryz.prog F #[v1] V (ZN V.heap.size V N D M E)
abbrev OpGI1 (F : FuncId) (n d m f N D M E : Int) : Prop := ∀ (V : World) (v1 : Value), Zh V v1 n d m f -> Calls Tryz.prog F #[v1] V (Y9 V N D M E)
abbrev OpN (F : FuncId) (n d m f N D : Int) : Prop := ∀ (V : World) (v1 : Value), Zh V v1 n d m f -> Calls Tryz.prog F #[v1] V (ZP V.heap.size V N D)
abbrev OpNI (F : FuncId) (n d m f N D : Int) : Prop := ∀ (V : World) (v1 : Value), Zh V v1 n d m f -> Calls Tryz.prog F #[v1] V (YJ V N D)
abbrev OpG (F : FuncId) (n d m f p q r s N D M E : Int) : Prop := ∀ (V : World) (v1 v2 : Value), Zh V v1 n d m f -> Zh V v2 p q r s -> Calls Tryz.prog F #[v1, v2] V (ZN V.heap.size V N D M E)
abbrev OpGI (F : FuncId) (n d m f p q r s N D M E : Int) : Prop := ∀ (V : World) (v1 v2 : Value), Zh V v1 n d m f -> Zh V v2 p q r s -> Calls Tryz.prog F #[v1, v2] V (Y9 V N D M E)

structure Sz (q : Rat) (k : Nat) : Prop where
 num : lz q.num <= k
 den : lz (q.den : Int) <= k
theorem Sz.mono {q : Rat} {k l : Nat} (h : Sz q k) (hl : k <= l) : Sz q l := ⟨Nat.le_trans h.num hl, Nat.le_trans h.den hl⟩
theorem Sz.lz {q : Rat} {k : Nat} {n d : Int} (h : Sz q k) (i : Is q n d) : Go.Proofs.YthlehkjcfhnplaaGreatDoor.lz n <= k /\ Go.Proofs.YthlehkjcfhnplaaGreatDoor.lz d <= k := by rw [<- i.num, <- i.den]; exact ⟨h.num, h.den⟩
theorem Is.sz {q : Rat} {n d : Int} {k : Nat} (i : Is q n d) (h1 : lz n <= k) (h2 : lz d <= k) : Sz q k := ⟨by rw [i.num]; exact h1, by rw [i.den]; exact h2⟩
theorem XN.is_ {n d : Int} (f : XN n d) : Is (Rat.divInt n d) n d /\ Sz (Rat.divInt n d) 2048 := ⟨fine_is f, (fine_is f).sz f.num f.den⟩
theorem lz_addN (n d m f : Int) : lz (addN n d m f) <= max (lz n + lz f) (lz m + lz d) + 1 /\ lz (addD n d m f) <= lz d + lz f := by
 have h1 := lowN_lz (n * f + m * d) (d * f)
 have h2 := lowD_lz (n * f + m * d) (d * f)
 have h3 := lz_add (n * f) (m * d)
 have h4 := Yw n f
 have h5 := Yw m d
 have h6 := Yw d f
 unfold addN addD
 omega
theorem lz_subN (n d m f : Int) : lz (subN n d m f) <= max (lz n + lz f) (lz m + lz d) + 1 /\ lz (subD n d m f) <= lz d + lz f := by
 have h1 := lowN_lz (n * f - m * d) (d * f)
 have h2 := lowD_lz (n * f - m * d) (d * f)
 have h3 := lz_sub (n * f) (m * d)
 have h4 := Yw n f
 have h5 := Yw m d
 have h6 := Yw d f
 unfold subN subD
 omega
theorem lz_mulN (n d m f : Int) : lz (mulN n d m f) <= lz n + lz m /\ lz (mulD n d m f) <= lz d + lz f := by
 have h1 := lowN_lz (n * m) (d * f)
 have h2 := lowD_lz (n * m) (d * f)
 have h4 := Yw n m
 have h6 := Yw d f
 unfold mulN mulD
 omega
theorem lz_quoN (n d m f : Int) : lz (quoN n d m f) <= lz n + lz f /\ lz (quoD n d m f) <= lz d + lz m := by
 have h1 := lowN_lz (n * f) (d * m)
 have h2 := lowD_lz (n * f) (d * m)
 have h4 := Yw n f
 have h6 := Yw d m
 unfold quoN quoD
 omega
section
variable {a b : Rat} {k l : Nat}
theorem sz_add (h : Sz a k) (g : Sz b l) : Sz (a + b) (k + l + 1) := by
 have i := is_add (Is.of a) (Is.of b)
 have b1 := lz_addN a.num a.den b.num b.den
 have := h.num
 have := h.den
 have := g.num
 have := g.den
 exact i.sz (by omega) (by omega)
theorem sz_sub (h : Sz a k) (g : Sz b l) : Sz (a - b) (k + l + 1) := by
 have i := is_sub (Is.of a) (Is.of b)
 have b1 := lz_subN a.num a.den b.num b.den
 have := h.num
 have := h.den
 have := g.num
 have := g.den
 exact i.sz (by omega) (by omega)
theorem YL (h : Sz a k) (g : Sz b l) : Sz (a * b) (k + l) := by
 have i := is_mul (Is.of a) (Is.of b)
 have b1 := lz_mulN a.num a.den b.num b.den
 have := h.num
 have := h.den
 have := g.num
 have := g.den
 exact i.sz (by omega) (by omega)
theorem sz_quo (h : Sz a k) (g : Sz b l) (hb : b ≠ 0) : Sz (a / b) (k + l) := by
 have i := is_quo (Is.of a) (Is.of b) hb
 have b1 := lz_quoN a.num a.den b.num b.den
 have := h.num
 have := h.den
 have := g.num
 have := g.den
 exact i.sz (by omega) (by omega)
theorem sz_neg (h : Sz a k) : Sz (-a) k := ⟨by rw [Rat.neg_num, lz_neg]; exact h.num, h.den⟩
theorem sz_zero : Sz 0 1 := ⟨by decide +kernel, by decide +kernel⟩
theorem sz_one : Sz 1 1 := ⟨by decide +kernel, by decide +kernel⟩
end
section
variable {a b : Rat} {n d m f N D : Int}
theorem plus_r (ha : Is a n d) (hb : Is b m f) (hz : Is (a + b) N D) (sa : Sz a 100000000) (sb : Sz b 100000000) : OpR 144 n d m f N D := by
 obtain ⟨rfl, rfl⟩ := hz.uniq (is_add ha hb)
 have l1 := sa.lz ha
 have l2 := sb.lz hb
 intro V v1 v2 g1 g2
 obtain ⟨A, c, B, e0, rfl, a1, a2⟩ := g1.form
 obtain ⟨A2, c2, B2, e2, rfl, a3, a4⟩ := g2.form
 exact ratio_Plus_own n d m f A B A2 B2 c e0 c2 e2 V a1 a2 a3 a4 l1.1 l1.2 l2.1 l2.2 (by have := ha.pos; omega) (by have := hb.pos; omega)
theorem minus_r (ha : Is a n d) (hb : Is b m f) (hz : Is (a - b) N D) (sa : Sz a 100000000) (sb : Sz b 100000000) : OpR 143 n d m f N D := by
 obtain ⟨rfl, rfl⟩ := hz.uniq (is_sub ha hb)
 have l1 := sa.lz ha
 have l2 := sb.lz hb
 intro V v1 v2 g1 g2
 obtain ⟨A, c, B, e0, rfl, a1, a2⟩ := g1.form
 obtain ⟨A2, c2, B2, e2, rfl, a3, a4⟩ := g2.form
 exact ratio_Minus_own n d m f A B A2 B2 c e0 c2 e2 V a1 a2 a3 a4 l1.1 l1.2 l2.1 l2.2 (by have := ha.pos; omega) (by have := hb.pos; omega)
theorem times_r (ha : Is a n d) (hb : Is b m f) (hz : Is (a * b) N D) (sa : Sz a 100000000) (sb : Sz b 100000000) : OpR 136 n d m f N D := by
 obtain ⟨rfl, rfl⟩ := hz.uniq (is_mul ha hb)
 have l1 := sa.lz ha
 have l2 := sb.lz hb
 intro V v1 v2 g1 g2
 obtain ⟨A, c, B, e0, rfl, a1, a2⟩ := g1.form
 obtain ⟨A2, c2, B2, e2, rfl, a3, a4⟩ := g2.form
 exact ratio_Times_own n d m f A B A2 B2 c e0 c2 e2 V a1 a2 a3 a4 l1.1 l1.2 l2.1 l2.2 (by have := ha.pos; omega) (by have := hb.pos; omega)
theorem over_r (ha : Is a n d) (hb : Is b m f) (hz : Is (a / b) N D) (sa : Sz a 100000000) (sb : Sz b 100000000) (hb0 : b ≠ 0) : OpR 146 n d m f N D := by
 obtain ⟨rfl, rfl⟩ := hz.uniq (is_quo ha hb hb0)
 have l1 := sa.lz ha
 have l2 := sb.lz hb
 intro V v1 v2 g1 g2
 obtain ⟨A, c, B, e0, rfl, a1, a2⟩ := g1.form
 obtain ⟨A2, c2, B2, e2, rfl, a3, a4⟩ := g2.form
 exact ratio_Over_own n d m f A B A2 B2 c e0 c2 e2 V a1 a2 a3 a4 l1.1 l1.2 l2.1 l2.2 (by have := ha.pos; omega) (by intro e; exact hb0 (hb.nought.1 e))
theorem plus_i (ha : Is a n d) (hb : Is b m f) (hz : Is (a + b) N D) (sa : Sz a 10000) (sb : Sz b 10000) : OpI 193 n d m f N D := by
 obtain ⟨rfl, rfl⟩ := hz.uniq (is_add ha hb)
 have l1 := sa.lz ha
 have l2 := sb.lz hb
 intro V v1 v2 g1 g2
 obtain ⟨A, c, B, e0, rfl, a1, a2⟩ := g1.form
 obtain ⟨A2, c2, B2, e2, rfl, a3, a4⟩ := g2.form
 exact ref02_Plus n d m f A B A2 B2 c e0 c2 e2 V a1 a2 a3 a4 l1.1 l1.2 l2.1 l2.2 (by have := ha.pos; omega) (by have := hb.pos; omega)
theorem minus_i (ha : Is a n d) (hb : Is b m f) (hz : Is (a - b) N D) (sa : Sz a 10000) (sb : Sz b 10000) : OpI 194 n d m f N D := by
 obtain ⟨rfl, rfl⟩ := hz.uniq (is_sub ha hb)
 have l1 := sa.lz ha
 have l2 := sb.lz hb
 intro V v1 v2 g1 g2
 obtain ⟨A, c, B, e0, rfl, a1, a2⟩ := g1.form
 obtain ⟨A2, c2, B2, e2, rfl, a3, a4⟩ := g2.form
 exact ref02_Minus n d m f A B A2 B2 c e0 c2 e2 V a1 a2 a3 a4 l1.1 l1.2 l2.1 l2.2 (by have := ha.pos; omega) (by have := hb.pos; omega)
theorem times_i (ha : Is a n d) (hb : Is b m f) (hz : Is (a * b) N D) (sa : Sz a 10000) (sb : Sz b 10000) : OpI 195 n d m f N D := by
 obtain ⟨rfl, rfl⟩ := hz.uniq (is_mul ha hb)
 have l1 := sa.lz ha
 have l2 := sb.lz hb
 intro V v1 v2 g1 g2
 obtain ⟨A, c, B, e0, rfl, a1, a2⟩ := g1.form
 obtain ⟨A2, c2, B2, e2, rfl, a3, a4⟩ := g2.form
 exact ref02_Times n d m f A B A2 B2 c e0 c2 e2 V a1 a2 a3 a4 l1.1 l1.2 l2.1 l2.2 (by have := ha.pos; omega) (by have := hb.pos; omega)
theorem over_i (ha : Is a n d) (hb : Is b m f) (hz : Is (a / b) N D) (sa : Sz a 10000) (sb : Sz b 10000) (hb0 : b ≠ 0) : OpI 197 n d m f N D := by
 obtain ⟨rfl, rfl⟩ := hz.uniq (is_quo ha hb hb0)
 have l1 := sa.lz ha
 have l2 := sb.lz hb
 intro V v1 v2 g1 g2
 obtain ⟨A, c, B, e0, rfl, a1, a2⟩ := g1.form
 obtain ⟨A2, c2, B2, e2, rfl, a3, a4⟩ := g2.form
 exact ref02_Over n d m f A B A2 B2 c e0 c2 e2 V a1 a2 a3 a4 l1.1 l1.2 l2.1 l2.2 (by have := ha.pos; omega) (by intro e; exact hb0 (hb.nought.1 e))
end

structure AlwaysAt (f : FuncId) (u : Value) (V : World) : Prop where
 form : ∃ g, u = .func (.func 210) #[] #[.pointer (some ⟨g, 0, none⟩)] /\ ZR V g 98 #[.func (.func f) #[] #[]]
structure TupF (base : Nat) (n d k : Int) (u : Value) (V : World) : Prop where
 form : ∃ v, u = .tuple #[v, .int .i64 k] /\ Zk V base v n d
structure BlkH (w : World) (g : Nat) (t : TypeId) (cs : Array Value) : Prop where
 blk : ZR w g t cs

def RetFrac2 (w : World) (n d k : Int) (e : Ending) (w' : World) : Prop := ∃ v, e = .returned (.tuple #[v, .int .i64 k]) /\ Yc w' v n d /\ Below w.heap.size w w'
end Go.Proofs.YthlehkjcfhnplaaGreatDoor
