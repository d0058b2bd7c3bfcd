/- Several texts in one: Kp, Oct, RatOps, FClos, FRefMake. -/
import Derived.Test.YtdonecnhdkjniaaGreatDoorGy23
set_option maxRecDepth 100000
set_option maxHeartbeats 8000000
namespace Go.Proofs.YtdonecnhdkjniaaGreatDoor
open Go.RowKit

structure Kp (P : World -> Prop) (V : World) : Prop where
 h : P V
 st : ∀ V V', P V -> Below V.heap.size V V' -> P V'
theorem Kp.below {P : World -> Prop} {V V' : World} (k : Kp P V) (hb : Below V.heap.size V V') : Kp P V' := ⟨k.st _ _ k.h hb, k.st⟩
theorem Kp.add {P Q : World -> Prop} {V : World} (k : Kp P V) (q : Q V) (s : ∀ V V', Q V -> Below V.heap.size V V' -> Q V') : Kp (fun V => Q V /\ P V) V :=
 ⟨⟨q, k.h⟩, fun V V' h hb => ⟨s V V' h.1 hb, k.st V V' h.2 hb⟩⟩
theorem Kp.base {w V : World} (h : Below w.heap.size w V) : Kp (fun V => Below w.heap.size w V) V := ⟨h, fun _ _ a b => Zb a b⟩

structure ZX (w : World) (g : Nat) (T : TypeId) (a b c d e f h i : Value) : Prop where
 blk : Z2 w g T #[a, b, c, d, e, f, h, i]
section
variable {w w' : World} {g : Nat} {T : TypeId} {a b c d e f h i : Value}
theorem ZX.new (w : World) (T : TypeId) (a b c d e f h i : Value) : ZX (w.alloc (.cells #[a, b, c, d, e, f, h, i] T)) w.heap.size T a b c d e f h i := ⟨Z2.new w _ _⟩
theorem ZX.below (k : ZX w g T a b c d e f h i) (hb : Below w.heap.size w w') : ZX w' g T a b c d e f h i := ⟨k.blk.below hb k.blk.lt⟩
theorem ZX.facts (k : ZX w g T a b c d e f h i) : g < w.heap.size /\ w.cell? ⟨g, 0, none⟩ = some a /\ w.cell? ⟨g, 1, none⟩ = some b /\ w.cell? ⟨g, 2, none⟩ = some c /\ w.cell? ⟨g, 3, none⟩ = some d /\
  w.cell? ⟨g, 4, none⟩ = some e /\ w.cell? ⟨g, 5, none⟩ = some f /\ w.cell? ⟨g, 6, none⟩ = some h /\ w.cell? ⟨g, 7, none⟩ = some i :=
 ⟨k.blk.lt, k.blk.cell 0, k.blk.cell 1, k.blk.cell 2, k.blk.cell 3, k.blk.cell 4, k.blk.cell 5, k.blk.cell 6, k.blk.cell 7⟩
theorem ZX.free (k : ZX w g T a b c d e f h i) : w.frozen? ⟨g, 0, none⟩ = false /\ w.frozen? ⟨g, 1, none⟩ = false /\ w.frozen? ⟨g, 2, none⟩ = false /\ w.frozen? ⟨g, 3, none⟩ = false /\
  w.frozen? ⟨g, 4, none⟩ = false /\ w.frozen? ⟨g, 5, none⟩ = false /\ w.frozen? ⟨g, 6, none⟩ = false /\ w.frozen? ⟨g, 7, none⟩ = false :=
 ⟨k.blk.frozen 0, k.blk.frozen 1, k.blk.frozen 2, k.blk.frozen 3, k.blk.frozen 4, k.blk.frozen 5, k.blk.frozen 6, k.blk.frozen 7⟩
end
theorem set8_far (w : World) (g : Nat) (x0 x1 x2 x3 x4 x5 x6 x7 : Value) (k : Nat) (hk : k ≠ g) : ((((((((w.setCell ⟨g, 0, none⟩ x0).setCell ⟨g, 1, none⟩ x1).setCell ⟨g, 2, none⟩ x2).setCell ⟨g, 3, none⟩ x3).setCell ⟨g, 4, none⟩ x4).setCell ⟨g, 5, none⟩ x5).setCell ⟨g, 6, none⟩ x6).setCell ⟨g, 7, none⟩ x7).heap[k]? = w.heap[k]? := by
 rw [Below.heap_setCell _ ⟨g, 7, none⟩ x7 k hk, Below.heap_setCell _ ⟨g, 6, none⟩ x6 k hk, Below.heap_setCell _ ⟨g, 5, none⟩ x5 k hk, Below.heap_setCell _ ⟨g, 4, none⟩ x4 k hk, Below.heap_setCell _ ⟨g, 3, none⟩ x3 k hk, Below.heap_setCell _ ⟨g, 2, none⟩ x2 k hk, Below.heap_setCell _ ⟨g, 1, none⟩ x1 k hk, Below.heap_setCell _ ⟨g, 0, none⟩ x0 k hk]
theorem below8 {W w : World} {B g : Nat} (h : Below B W w) (hg : B <= g) (x0 x1 x2 x3 x4 x5 x6 x7 : Value) : Below B W ((((((((w.setCell ⟨g, 0, none⟩ x0).setCell ⟨g, 1, none⟩ x1).setCell ⟨g, 2, none⟩ x2).setCell ⟨g, 3, none⟩ x3).setCell ⟨g, 4, none⟩ x4).setCell ⟨g, 5, none⟩ x5).setCell ⟨g, 6, none⟩ x6).setCell ⟨g, 7, none⟩ x7) :=
 ((((((((h.setCell (p := ⟨g, 0, none⟩) hg x0).setCell (p := ⟨g, 1, none⟩) hg x1).setCell (p := ⟨g, 2, none⟩) hg x2).setCell (p := ⟨g, 3, none⟩) hg x3).setCell (p := ⟨g, 4, none⟩) hg x4).setCell (p := ⟨g, 5, none⟩) hg x5).setCell (p := ⟨g, 6, none⟩) hg x6).setCell (p := ⟨g, 7, none⟩) hg x7)
theorem ZX.store {w : World} {g : Nat} {T : TypeId} {a b c d e f h i : Value} (k : ZX w g T a b c d e f h i) (x0 x1 x2 x3 x4 x5 x6 x7 : Value) : ZX ((((((((w.setCell ⟨g, 0, none⟩ x0).setCell ⟨g, 1, none⟩ x1).setCell ⟨g, 2, none⟩ x2).setCell ⟨g, 3, none⟩ x3).setCell ⟨g, 4, none⟩ x4).setCell ⟨g, 5, none⟩ x5).setCell ⟨g, 6, none⟩ x6).setCell ⟨g, 7, none⟩ x7) g T x0 x1 x2 x3 x4 x5 x6 x7 := by
 have key := ((((((((k.blk.set_ 0 x0).set_ 1 x1).set_ 2 x2).set_ 3 x3).set_ 4 x4).set_ 5 x5).set_ 6 x6).set_ 7 x7)
 have e9 : ((((((((#[a, b, c, d, e, f, h, i].setIfInBounds 0 x0).setIfInBounds 1 x1).setIfInBounds 2 x2).setIfInBounds 3 x3).setIfInBounds 4 x4).setIfInBounds 5 x5).setIfInBounds 6 x6).setIfInBounds 7 x7) = #[x0, x1, x2, x3, x4, x5, x6, x7] := by simp
 rw [e9] at key
 exact ⟨key⟩
theorem Zc.other {w w' : World} {base g : Nat} {v : Value} {n : Int} {T : TypeId} {cs : Array Value} (hi : Zc w base v n) (hb : Z2 w g T cs) (hT : 109 ≠ T) (hw : ∀ k, k ≠ g -> w'.heap[k]? = w.heap[k]?) : Zc w' base v n := by
 obtain ⟨A', c', a1, a2, a3, a4⟩ := hi.form
 have hne := Xf a4 hb hT
 refine ⟨A', c', a1, a2, a3, a4.1, ?_⟩
 rcases a4.2 with p | ⟨g', cap, cur, p1, p2, p3, p4⟩
 . exact .inl p
 . refine .inr ⟨g', cap, cur, p1, p2, ?_, p4⟩
   have hg : g' ≠ g := fun e => by
    rw [p1] at hne
    exact hne (by simp [Value.ownBlock, e])
   rw [hw g' hg]
   exact p3
theorem Ze.other {w w' : World} {base g : Nat} {v : Value} {n d : Int} {T : TypeId} {cs : Array Value} (h : Ze w base v n d) (hb : Z2 w g T cs) (hT : 109 ≠ T) (hw : ∀ k, k ≠ g -> w'.heap[k]? = w.heap[k]?) : Ze w' base v n d := by
 obtain ⟨A, c, B, e, h1, h2, h3, h4⟩ := h.form
 exact ⟨A, c, B, e, h1, h2.other hb hT hw, h3.other hb hT hw, h4⟩
structure Cell1 (w : World) (b : Nat) (T : TypeId) (v : Value) : Prop where
 blk : Z2 w b T #[v]
theorem Zy {w : World} {c1 : Array Value} {T1 : TypeId} {P : World -> Prop} (h : ∀ W, Z2 W w.heap.size T1 c1 -> Below w.heap.size w W -> P W) : P (w.alloc (.cells c1 T1)) := h _ (Z2.new w _ _) ((Below.refl _ _).alloc (Nat.le_refl _) _)
theorem boxes2 {w : World} {c1 c2 : Array Value} {T1 T2 : TypeId} {P : World -> Prop} (h : ∀ W, Z2 W w.heap.size T1 c1 -> Z2 W (w.heap.size + 1) T2 c2 -> Below w.heap.size w W -> P W) : P ((w.alloc (.cells c1 T1)).alloc (.cells c2 T2)) := by
 have k := Z2.new (w.alloc (.cells c1 T1)) T2 c2
 rw [World.size_alloc] at k
 exact h _ ((Z2.new w _ _).alloc _) k (((Below.refl _ _).alloc (Nat.le_refl _) _).alloc (by simp) _)
theorem boxes3 {w : World} {c1 c2 c3 : Array Value} {T1 T2 T3 : TypeId} {P : World -> Prop} (h : ∀ W, Z2 W w.heap.size T1 c1 -> Z2 W (w.heap.size + 1) T2 c2 -> Z2 W (w.heap.size + 1 + 1) T3 c3 -> Below w.heap.size w W -> P W) : P (((w.alloc (.cells c1 T1)).alloc (.cells c2 T2)).alloc (.cells c3 T3)) := by
 refine boxes2 (w := w) (c1 := c1) (T1 := T1) (c2 := c2) (T2 := T2) (P := fun V => V.heap.size = w.heap.size + 1 + 1 -> P (V.alloc (.cells c3 T3))) (fun V h1 h2 h3 hz => ?_) (by simp)
 have k := Z2.new V T3 c3
 rw [hz] at k
 exact h _ (h1.alloc _) (h2.alloc _) k (h3.alloc (by omega) _)
def Yp (v : Value) (g : Nat) : Prop := ∃ b1 A k c b2 B l e, v = .agg #[.bool b1, .slice A k c, .bool b2, .slice B l e] /\ ((Value.slice A k c).ownBlock = some g ∨ (Value.slice B l e).ownBlock = some g)
theorem Yp.at {b1 b2 : Bool} {A B : Option Addr} {k c l e g : Nat} (h : Yp (.agg #[.bool b1, .slice A k c, .bool b2, .slice B l e]) g) : (Value.slice A k c).ownBlock = some g ∨ (Value.slice B l e).ownBlock = some g := by
 obtain ⟨c1, A', k', c', c2, B', l', e', h1, h2⟩ := h
 simp only [Value.agg.injEq, Array.mk.injEq, List.cons.injEq, Value.slice.injEq, and_true] at h1
 obtain ⟨-, ⟨rfl, rfl, rfl⟩, -, rfl, rfl, rfl⟩ := h1
 exact h2
theorem Ze.mine {w : World} {base : Nat} {v : Value} {n d : Int} (h : Ze w base v n d) : ∀ g, Yp v g -> base <= g /\ g < w.heap.size := by
 obtain ⟨A, c, B, e, rfl, h1, h2, -⟩ := h.form
 intro g hg
 rcases hg.at with h3 | h3
 . exact h1.mine g h3
 . exact h2.mine g h3
theorem Ze.in_ {w : World} {base : Nat} {v : Value} {n d : Int} (h : Ze w base v n d) : ZG w 0 v n d := by
 obtain ⟨A, c, B, e, h1, h2, h3, -⟩ := h.form
 exact ⟨A, c, B, e, h1, h2.base (Nat.zero_le _), h3.base (Nat.zero_le _)⟩
structure Zi (w : World) (v : Value) (n d m f : Int) : Prop where
 form : ∃ A c B e A2 c2 B2 e2, v = .agg #[.bool (decide (n < 0)), .slice A (Za n.natAbs).length c, .bool (decide (d < 0)), .slice B (Za d.natAbs).length e, .bool (decide (m < 0)), .slice A2 (Za m.natAbs).length c2, .bool (decide (f < 0)), .slice B2 (Za f.natAbs).length e2] /\
  Zr w A c (Za n.natAbs) /\ Zr w B e (Za d.natAbs) /\ Zr w A2 c2 (Za m.natAbs) /\ Zr w B2 e2 (Za f.natAbs)
theorem Zi.below {w w' : World} {v : Value} {n d m f : Int} (h : Zi w v n d m f) (hb : Below w.heap.size w w') : Zi w' v n d m f := by
 obtain ⟨A, c, B, e, A2, c2, B2, e2, h1, h2, h3, h4, h5⟩ := h.form
 exact ⟨A, c, B, e, A2, c2, B2, e2, h1, h2.below hb, h3.below hb, h4.below hb, h5.below hb⟩
structure YI (w : World) (v : Value) (n d m f : Int) : Prop where
 form : ∃ A c B e A2 c2 B2 e2, v = .agg #[.bool (decide (n < 0)), .slice A (Za n.natAbs).length c, .bool (decide (d < 0)), .slice B (Za d.natAbs).length e, .bool (decide (m < 0)), .slice A2 (Za m.natAbs).length c2, .bool (decide (f < 0)), .slice B2 (Za f.natAbs).length e2] /\
  ZG w 0 (.agg #[.bool (decide (n < 0)), .slice A (Za n.natAbs).length c, .bool (decide (d < 0)), .slice B (Za d.natAbs).length e]) n d /\ ZG w 0 (.agg #[.bool (decide (m < 0)), .slice A2 (Za m.natAbs).length c2, .bool (decide (f < 0)), .slice B2 (Za f.natAbs).length e2]) m f
theorem ZG.raws {w : World} {base c e : Nat} {A B : Option Addr} {n d : Int} (h : ZG w base (.agg #[.bool (decide (n < 0)), .slice A (Za n.natAbs).length c, .bool (decide (d < 0)), .slice B (Za d.natAbs).length e]) n d) : Zr w A c (Za n.natAbs) /\ Zr w B e (Za d.natAbs) := by
 obtain ⟨A', c', B', e', h1, h2, h3⟩ := h.form
 simp only [Value.agg.injEq, Array.mk.injEq, List.cons.injEq, Value.slice.injEq, and_true, true_and] at h1
 obtain ⟨⟨rfl, rfl⟩, rfl, rfl⟩ := h1
 exact ⟨h2.rawAt, h3.rawAt⟩
theorem YI.at_ {w : World} {v : Value} {n d m f : Int} (h : YI w v n d m f) : Zi w v n d m f := by
 obtain ⟨A, c, B, e, A2, c2, B2, e2, h1, h2, h3⟩ := h.form
 exact ⟨A, c, B, e, A2, c2, B2, e2, h1, h2.raws.1, h2.raws.2, h3.raws.1, h3.raws.2⟩
theorem YI.below {w w' : World} {v : Value} {n d m f : Int} (h : YI w v n d m f) (hb : Below w.heap.size w w') : YI w' v n d m f := by
 obtain ⟨A, c, B, e, A2, c2, B2, e2, h1, h2, h3⟩ := h.form
 exact ⟨A, c, B, e, A2, c2, B2, e2, h1, h2.below hb, h3.below hb⟩
theorem YI.cells {w : World} {v : Value} {n d m f : Int} (h : YI w v n d m f) : CellsN v 8 := by
 obtain ⟨A, c, B, e, A2, c2, B2, e2, rfl, -⟩ := h.form
 exact ⟨rfl, by simp [Value.cells, Value.oneCell']⟩
structure Zk (w : World) (base : Nat) (v : Value) (n d m f : Int) : Prop where
 form : ∃ A c B e A2 c2 B2 e2, v = .agg #[.bool (decide (n < 0)), .slice A (Za n.natAbs).length c, .bool (decide (d < 0)), .slice B (Za d.natAbs).length e, .bool (decide (m < 0)), .slice A2 (Za m.natAbs).length c2, .bool (decide (f < 0)), .slice B2 (Za f.natAbs).length e2] /\
  Ze w base (.agg #[.bool (decide (n < 0)), .slice A (Za n.natAbs).length c, .bool (decide (d < 0)), .slice B (Za d.natAbs).length e]) n d /\ Ze w base (.agg #[.bool (decide (m < 0)), .slice A2 (Za m.natAbs).length c2, .bool (decide (f < 0)), .slice B2 (Za f.natAbs).length e2]) m f /\
  ∀ g, Yp (.agg #[.bool (decide (n < 0)), .slice A (Za n.natAbs).length c, .bool (decide (d < 0)), .slice B (Za d.natAbs).length e]) g -> ¬ Yp (.agg #[.bool (decide (m < 0)), .slice A2 (Za m.natAbs).length c2, .bool (decide (f < 0)), .slice B2 (Za f.natAbs).length e2]) g
theorem Zk.in_ {w : World} {base : Nat} {v : Value} {n d m f : Int} (h : Zk w base v n d m f) : YI w v n d m f := by
 obtain ⟨A, c, B, e, A2, c2, B2, e2, h1, h2, h3, -⟩ := h.form
 exact ⟨A, c, B, e, A2, c2, B2, e2, h1, h2.in_, h3.in_⟩
theorem Zk.cells {w : World} {base : Nat} {v : Value} {n d m f : Int} (h : Zk w base v n d m f) : CellsN v 8 := h.in_.cells
theorem Zk.kept {B : Nat} {Ts : List TypeId} {w w' : World} {base : Nat} {v : Value} {n d m f : Int} (h : Zk w base v n d m f) (k : Zq B Ts w w') (hT : 109 ∉ Ts) : Zk w' base v n d m f := by
 obtain ⟨A, c, B, e, A2, c2, B2, e2, h1, h2, h3, h4⟩ := h.form
 exact ⟨A, c, B, e, A2, c2, B2, e2, h1, h2.kept k hT, h3.kept k hT, h4⟩
theorem Zk.below {w w' : World} {base : Nat} {v : Value} {n d m f : Int} (h : Zk w base v n d m f) (hb : Below w.heap.size w w') : Zk w' base v n d m f := by
 obtain ⟨A, c, B, e, A2, c2, B2, e2, h1, h2, h3, h4⟩ := h.form
 exact ⟨A, c, B, e, A2, c2, B2, e2, h1, h2.below hb, h3.below hb, h4⟩
theorem Zk.base {w : World} {b b' : Nat} {v : Value} {n d m f : Int} (h : Zk w b v n d m f) (hb : b' <= b) : Zk w b' v n d m f := by
 obtain ⟨A, c, B, e, A2, c2, B2, e2, h1, h2, h3, h4⟩ := h.form
 exact ⟨A, c, B, e, A2, c2, B2, e2, h1, h2.base hb, h3.base hb, h4⟩
theorem Zk.nought (w : World) (base : Nat) : Zk w base (.agg #[.bool false, .slice none 0 0, .bool false, .slice none 0 0, .bool false, .slice none 0 0, .bool false, .slice none 0 0]) 0 0 0 0 :=
 ⟨none, 0, none, 0, none, 0, none, 0, rfl, Ze.nought _ _, Ze.nought _ _, fun g hg => by rcases hg.at with h | h <;> cases h⟩
theorem Zk.oct {w : World} {base g : Nat} {v : Value} {n d m f : Int} {T : TypeId} {a b c e h i j k : Value} (q : Zk w base v n d m f) (o : ZX w g T a b c e h i j k) (hT : 109 ≠ T) (x0 x1 x2 x3 x4 x5 x6 x7 : Value) : Zk ((((((((w.setCell ⟨g, 0, none⟩ x0).setCell ⟨g, 1, none⟩ x1).setCell ⟨g, 2, none⟩ x2).setCell ⟨g, 3, none⟩ x3).setCell ⟨g, 4, none⟩ x4).setCell ⟨g, 5, none⟩ x5).setCell ⟨g, 6, none⟩ x6).setCell ⟨g, 7, none⟩ x7) base v n d m f := by
 obtain ⟨A, c, B, e, A2, c2, B2, e2, h1, h2, h3, h4⟩ := q.form
 exact ⟨A, c, B, e, A2, c2, B2, e2, h1, h2.other o.blk hT (set8_far w g x0 x1 x2 x3 x4 x5 x6 x7), h3.other o.blk hT (set8_far w g x0 x1 x2 x3 x4 x5 x6 x7), h4⟩
def Zo (base : Nat) (w : World) (n d m f : Int) (e : Ending) (w' : World) : Prop := ∃ v, e = .returned v /\ Zk w' base v n d m f /\ Below w.heap.size w w'
def Zn (base : Nat) (w : World) (n d m f k : Int) (e : Ending) (w' : World) : Prop := ∃ v, e = .returned (.tuple #[v, .int .i64 k]) /\ Zk w' base v n d m f /\ Below w.heap.size w w'
def RetGaussIn (w : World) (n d m f : Int) (e : Ending) (w' : World) : Prop := ∃ v, e = .returned v /\ YI w' v n d m f /\ Below w.heap.size w w'
def Yv (w : World) (n d m f k : Int) (e : Ending) (w' : World) : Prop := ∃ v, e = .returned (.tuple #[v, .int .i64 k]) /\ YI w' v n d m f /\ Below w.heap.size w w'
structure FracRaw (w : World) (v : Value) (n1 n2 : Bool) (xs ys : List Nat) : Prop where
 form : ∃ A c B e, v = .agg #[.bool n1, .slice A xs.length c, .bool n2, .slice B ys.length e] /\ Zr w A c xs /\ Zr w B e ys
structure ZC (w : World) (v : Value) (n1 n2 n3 n4 : Bool) (xs ys us vs : List Nat) : Prop where
 form : ∃ A c B e A2 c2 B2 e2, v = .agg #[.bool n1, .slice A xs.length c, .bool n2, .slice B ys.length e, .bool n3, .slice A2 us.length c2, .bool n4, .slice B2 vs.length e2] /\ Zr w A c xs /\ Zr w B e ys /\ Zr w A2 c2 us /\ Zr w B2 e2 vs
theorem Zi.raw {w : World} {v : Value} {n d m f : Int} (h : Zi w v n d m f) : ZC w v (decide (n < 0)) (decide (d < 0)) (decide (m < 0)) (decide (f < 0)) (Za n.natAbs) (Za d.natAbs) (Za m.natAbs) (Za f.natAbs) := ⟨h.form⟩
section
variable {w w' : World} {c e k l : Nat} {n d m f : Int} {A B C D : Option Addr}
theorem Zi.raws (h : Zi w (.agg #[.bool (decide (n < 0)), .slice A (Za n.natAbs).length c, .bool (decide (d < 0)), .slice B (Za d.natAbs).length e, .bool (decide (m < 0)), .slice C (Za m.natAbs).length k, .bool (decide (f < 0)), .slice D (Za f.natAbs).length l]) n d m f) : Zr w A c (Za n.natAbs) /\ Zr w B e (Za d.natAbs) /\ Zr w C k (Za m.natAbs) /\ Zr w D l (Za f.natAbs) := by
 obtain ⟨A1, k1, A2, k2, A3, k3, A4, k4, h1, h2, h3, h4, h5⟩ := h.form
 simp only [Value.agg.injEq, Array.mk.injEq, List.cons.injEq, Value.slice.injEq, and_true, true_and] at h1
 obtain ⟨⟨rfl, rfl⟩, ⟨rfl, rfl⟩, ⟨rfl, rfl⟩, rfl, rfl⟩ := h1
 exact ⟨h2, h3, h4, h5⟩
theorem Zi.re (h : Zi w (.agg #[.bool (decide (n < 0)), .slice A (Za n.natAbs).length c, .bool (decide (d < 0)), .slice B (Za d.natAbs).length e, .bool (decide (m < 0)), .slice C (Za m.natAbs).length k, .bool (decide (f < 0)), .slice D (Za f.natAbs).length l]) n d m f) : ZV w (.agg #[.bool (decide (n < 0)), .slice A (Za n.natAbs).length c, .bool (decide (d < 0)), .slice B (Za d.natAbs).length e]) n d := ⟨_, _, _, _, rfl, h.raws.1, h.raws.2.1⟩
theorem Zi.im (h : Zi w (.agg #[.bool (decide (n < 0)), .slice A (Za n.natAbs).length c, .bool (decide (d < 0)), .slice B (Za d.natAbs).length e, .bool (decide (m < 0)), .slice C (Za m.natAbs).length k, .bool (decide (f < 0)), .slice D (Za f.natAbs).length l]) n d m f) : ZV w (.agg #[.bool (decide (m < 0)), .slice C (Za m.natAbs).length k, .bool (decide (f < 0)), .slice D (Za f.natAbs).length l]) m f := ⟨_, _, _, _, rfl, h.raws.2.2.1, h.raws.2.2.2⟩
end
section
variable {w w' : World} {v : Value} {n1 n2 n3 n4 : Bool} {xs ys us vs : List Nat} {c e k l : Nat} {A B C D : Option Addr}
theorem ZC.below (h : ZC w v n1 n2 n3 n4 xs ys us vs) (hb : Below w.heap.size w w') : ZC w' v n1 n2 n3 n4 xs ys us vs := by
 obtain ⟨A1, k1, A2, k2, A3, k3, A4, k4, h1, h2, h3, h4, h5⟩ := h.form
 exact ⟨A1, k1, A2, k2, A3, k3, A4, k4, h1, h2.below hb, h3.below hb, h4.below hb, h5.below hb⟩
theorem ZC.raws (h : ZC w (.agg #[.bool n1, .slice A xs.length c, .bool n2, .slice B ys.length e, .bool n3, .slice C us.length k, .bool n4, .slice D vs.length l]) n1 n2 n3 n4 xs ys us vs) : Zr w A c xs /\ Zr w B e ys /\ Zr w C k us /\ Zr w D l vs := by
 obtain ⟨A1, k1, A2, k2, A3, k3, A4, k4, h1, h2, h3, h4, h5⟩ := h.form
 simp only [Value.agg.injEq, Array.mk.injEq, List.cons.injEq, Value.slice.injEq, and_true, true_and] at h1
 obtain ⟨⟨rfl, rfl⟩, ⟨rfl, rfl⟩, ⟨rfl, rfl⟩, rfl, rfl⟩ := h1
 exact ⟨h2, h3, h4, h5⟩
end
theorem Jb {W w : World} {B g base : Nat} {T : TypeId} {a b c d e f h i x0 x1 x2 x3 x4 x5 x6 x7 : Value} {N D M E : Int} (q : Zk w base (.agg #[x0, x1, x2, x3, x4, x5, x6, x7]) N D M E) (o : ZX w g T a b c d e f h i) (hb : Below B W w) (hg : B <= g) (hT : 109 ≠ T) :
 ZX ((((((((w.setCell ⟨g, 0, none⟩ x0).setCell ⟨g, 1, none⟩ x1).setCell ⟨g, 2, none⟩ x2).setCell ⟨g, 3, none⟩ x3).setCell ⟨g, 4, none⟩ x4).setCell ⟨g, 5, none⟩ x5).setCell ⟨g, 6, none⟩ x6).setCell ⟨g, 7, none⟩ x7) g T x0 x1 x2 x3 x4 x5 x6 x7 /\ Below B W ((((((((w.setCell ⟨g, 0, none⟩ x0).setCell ⟨g, 1, none⟩ x1).setCell ⟨g, 2, none⟩ x2).setCell ⟨g, 3, none⟩ x3).setCell ⟨g, 4, none⟩ x4).setCell ⟨g, 5, none⟩ x5).setCell ⟨g, 6, none⟩ x6).setCell ⟨g, 7, none⟩ x7) /\ Zk ((((((((w.setCell ⟨g, 0, none⟩ x0).setCell ⟨g, 1, none⟩ x1).setCell ⟨g, 2, none⟩ x2).setCell ⟨g, 3, none⟩ x3).setCell ⟨g, 4, none⟩ x4).setCell ⟨g, 5, none⟩ x5).setCell ⟨g, 6, none⟩ x6).setCell ⟨g, 7, none⟩ x7) base (.agg #[x0, x1, x2, x3, x4, x5, x6, x7]) N D M E := ⟨o.store x0 x1 x2 x3 x4 x5 x6 x7, below8 hb hg x0 x1 x2 x3 x4 x5 x6 x7, q.oct o hT x0 x1 x2 x3 x4 x5 x6 x7⟩
theorem gzero {W w : World} {B g : Nat} {T : TypeId} {a b c d e f h i : Value} (o : ZX w g T a b c d e f h i) (hb : Below B W w) (hg : B <= g) :
 ZX ((((((((w.setCell ⟨g, 0, none⟩ (.bool false)).setCell ⟨g, 1, none⟩ (.slice none 0 0)).setCell ⟨g, 2, none⟩ (.bool false)).setCell ⟨g, 3, none⟩ (.slice none 0 0)).setCell ⟨g, 4, none⟩ (.bool false)).setCell ⟨g, 5, none⟩ (.slice none 0 0)).setCell ⟨g, 6, none⟩ (.bool false)).setCell ⟨g, 7, none⟩ (.slice none 0 0)) g T (.bool false) (.slice none 0 0) (.bool false) (.slice none 0 0) (.bool false) (.slice none 0 0) (.bool false) (.slice none 0 0) /\ Below B W ((((((((w.setCell ⟨g, 0, none⟩ (.bool false)).setCell ⟨g, 1, none⟩ (.slice none 0 0)).setCell ⟨g, 2, none⟩ (.bool false)).setCell ⟨g, 3, none⟩ (.slice none 0 0)).setCell ⟨g, 4, none⟩ (.bool false)).setCell ⟨g, 5, none⟩ (.slice none 0 0)).setCell ⟨g, 6, none⟩ (.bool false)).setCell ⟨g, 7, none⟩ (.slice none 0 0)) := ⟨o.store (.bool false) (.slice none 0 0) (.bool false) (.slice none 0 0) (.bool false) (.slice none 0 0) (.bool false) (.slice none 0 0), below8 hb hg (.bool false) (.slice none 0 0) (.bool false) (.slice none 0 0) (.bool false) (.slice none 0 0) (.bool false) (.slice none 0 0)⟩
structure GV (w : World) (g : Nat) (T : TypeId) (n d m f : Int) (A : Option Addr) (c : Nat) (B : Option Addr) (e : Nat) (C : Option Addr) (k : Nat) (D : Option Addr) (l : Nat) : Prop where
 oct : ZX w g T (.bool (decide (n < 0))) (.slice A (Za n.natAbs).length c) (.bool (decide (d < 0))) (.slice B (Za d.natAbs).length e) (.bool (decide (m < 0))) (.slice C (Za m.natAbs).length k) (.bool (decide (f < 0))) (.slice D (Za f.natAbs).length l)
 at_ : Zi w (.agg #[.bool (decide (n < 0)), .slice A (Za n.natAbs).length c, .bool (decide (d < 0)), .slice B (Za d.natAbs).length e, .bool (decide (m < 0)), .slice C (Za m.natAbs).length k, .bool (decide (f < 0)), .slice D (Za f.natAbs).length l]) n d m f
section
variable {w w' : World} {g c e k l : Nat} {T : TypeId} {n d m f : Int} {A B C D : Option Addr}
theorem GV.below (h : GV w g T n d m f A c B e C k D l) (hb : Below w.heap.size w w') : GV w' g T n d m f A c B e C k D l := ⟨h.oct.below hb, h.at_.below hb⟩
theorem GV.new (T : TypeId) (h : Zi w (.agg #[.bool (decide (n < 0)), .slice A (Za n.natAbs).length c, .bool (decide (d < 0)), .slice B (Za d.natAbs).length e, .bool (decide (m < 0)), .slice C (Za m.natAbs).length k, .bool (decide (f < 0)), .slice D (Za f.natAbs).length l]) n d m f) : GV (w.alloc (.cells #[.bool (decide (n < 0)), .slice A (Za n.natAbs).length c, .bool (decide (d < 0)), .slice B (Za d.natAbs).length e, .bool (decide (m < 0)), .slice C (Za m.natAbs).length k, .bool (decide (f < 0)), .slice D (Za f.natAbs).length l] T)) w.heap.size T n d m f A c B e C k D l := ⟨ZX.new w T _ _ _ _ _ _ _ _, h.below ((Below.refl _ _).alloc (Nat.le_refl _) _)⟩
end
structure TupG (V : World) (base : Nat) (u : Value) (n d m f k : Int) : Prop where
 form : ∃ v, u = .tuple #[v, .int .i64 k] /\ Zk V base v n d m f
theorem TupG.kept {B : Nat} {Ts : List TypeId} {w w' : World} {base : Nat} {u : Value} {n d m f k : Int} (h : TupG w base u n d m f k) (hk : Zq B Ts w w') (hT : 109 ∉ Ts) : TupG w' base u n d m f k := by
 obtain ⟨v, h1, h2⟩ := h.form
 exact ⟨v, h1, h2.kept hk hT⟩
structure TupGI (V : World) (u : Value) (n d m f k : Int) : Prop where
 form : ∃ v, u = .tuple #[v, .int .i64 k] /\ YI V v n d m f
structure TupR (V : World) (base : Nat) (u : Value) (n d k : Int) : Prop where
 form : ∃ v, u = .tuple #[v, .int .i64 k] /\ Ze V base v n d
structure TupRI (V : World) (u : Value) (n d k : Int) : Prop where
 form : ∃ v, u = .tuple #[v, .int .i64 k] /\ ZG V 0 v n d
abbrev OpR (F : FuncId) (n d m f N D : Int) : Prop := ∀ (V : World) (v1 v2 : Value), ZV V v1 n d -> ZV V v2 m f -> Calls Tryz.prog F #[v1, v2] V (ZE V.heap.size V N D)
abbrev OpI (F : FuncId) (n d m f N D : Int) : Prop := ∀ (V : World) (v1 v2 : Value), ZV V v1 n d -> ZV V v2 m f -> Calls Tryz.prog F #[v1, v2] V (XO V N D)
abbrev OpR1 (F : FuncId) (n d N D : Int) : Prop := ∀ (V : World) (v1 : Value), ZV V v1 n d -> Calls Tryz.prog F #[v1] V (ZE V.heap.size V N D)
abbrev OpI1 (F : FuncId) (n d N D : Int) : Prop := ∀ (V : World) (v1 : Value), ZV V v1 n d -> Calls Tryz.prog F #[v1] V (XO V N D)
abbrev OpR0 (F : FuncId) (N D : Int) : Prop := ∀ (V : World), Calls Tryz.prog F #[] V (ZE V.heap.size V N D)
abbrev OpI0 (F : FuncId) (N D : Int) : Prop := ∀ (V : World), Calls Tryz.prog F #[] V (XO V N D)
abbrev Yg (F : FuncId) (n d s : Int) : Prop := ∀ (V : World) (v1 : Value), ZV V v1 n d -> Calls Tryz.prog F #[v1] V fun e w' => e = .returned (.int .i64 s) /\ Below V.heap.size V w'
abbrev OpGF (F : FuncId) (n d m f p q N D M E : Int) : Prop := ∀ (V : World) (v1 v2 : Value), Zi V v1 n d m f -> ZV V v2 p q -> Calls Tryz.prog F #[v1, v2] V (Zo V.heap.size V N D M E)
abbrev OpG1 (F : FuncId) (n d m f N D M E : Int) : Prop := ∀ (V : World) (v1 : Value), Zi V v1 n d m f -> Calls Tryz.prog F #[v1] V (Zo V.heap.size V N D M E)
abbrev OpGI1 (F : FuncId) (n d m f N D M E : Int) : Prop := ∀ (V : World) (v1 : Value), Zi V v1 n d m f -> Calls Tryz.prog F #[v1] V (RetGaussIn V N D M E)
abbrev OpN (F : FuncId) (n d m f N D : Int) : Prop := ∀ (V : World) (v1 : Value), Zi V v1 n d m f -> Calls Tryz.prog F #[v1] V (ZE V.heap.size V N D)
abbrev OpNI (F : FuncId) (n d m f N D : Int) : Prop := ∀ (V : World) (v1 : Value), Zi V v1 n d m f -> Calls Tryz.prog F #[v1] V (XO V N D)
abbrev OpG (F : FuncId) (n d m f p q r s N D M E : Int) : Prop := ∀ (V : World) (v1 v2 : Value), Zi V v1 n d m f -> Zi V v2 p q r s -> Calls Tryz.prog F #[v1, v2] V (Zo V.heap.size V N D M E)
abbrev OpGI (F : FuncId) (n d m f p q r s N D M E : Int) : Prop := ∀ (V : World) (v1 v2 : Value), Zi V v1 n d m f -> Zi V v2 p q r s -> Calls Tryz.prog F #[v1, v2] V (RetGaussIn V N D M E)

structure Sz (q : Rat) (k : Nat) : Prop where
 num : lz q.num <= k
 den : lz (q.den : Int) <= k
theorem Sz.mono {q : Rat} {k l : Nat} (h : Sz q k) (hl : k <= l) : Sz q l := ⟨Nat.le_trans h.num hl, Nat.le_trans h.den hl⟩
theorem Sz.lz {q : Rat} {k : Nat} {n d : Int} (h : Sz q k) (i : Is q n d) : Go.Proofs.YtdonecnhdkjniaaGreatDoor.lz n <= k /\ Go.Proofs.YtdonecnhdkjniaaGreatDoor.lz d <= k := by rw [<- i.num, <- i.den]; exact ⟨h.num, h.den⟩
theorem Is.sz {q : Rat} {n d : Int} {k : Nat} (i : Is q n d) (h1 : lz n <= k) (h2 : lz d <= k) : Sz q k := ⟨by rw [i.num]; exact h1, by rw [i.den]; exact h2⟩
theorem Jh.is_ {n d : Int} (f : Jh n d) : Is (Rat.divInt n d) n d /\ Sz (Rat.divInt n d) 2048 := ⟨fine_is f, (fine_is f).sz f.num f.den⟩
theorem lz_addN (n d m f : Int) : lz (addN n d m f) <= max (lz n + lz f) (lz m + lz d) + 1 /\ lz (addD n d m f) <= lz d + lz f := by
 have h1 := lowN_lz (n * f + m * d) (d * f)
 have h2 := lowD_lz (n * f + m * d) (d * f)
 have h3 := lz_add (n * f) (m * d)
 have h4 := Xg n f
 have h5 := Xg m d
 have h6 := Xg d f
 unfold addN addD
 omega
theorem lz_mulN (n d m f : Int) : lz (mulN n d m f) <= lz n + lz m /\ lz (mulD n d m f) <= lz d + lz f := by
 have h1 := lowN_lz (n * m) (d * f)
 have h2 := lowD_lz (n * m) (d * f)
 have h4 := Xg n m
 have h6 := Xg d f
 unfold mulN mulD
 omega
section
variable {a b : Rat} {k l : Nat}
theorem sz_add (h : Sz a k) (g : Sz b l) : Sz (a + b) (k + l + 1) := by
 have i := is_add (Is.of a) (Is.of b)
 have b1 := lz_addN a.num a.den b.num b.den
 have := h.num
 have := h.den
 have := g.num
 have := g.den
 exact i.sz (by omega) (by omega)
theorem sz_mul (h : Sz a k) (g : Sz b l) : Sz (a * b) (k + l) := by
 have i := is_mul (Is.of a) (Is.of b)
 have b1 := lz_mulN a.num a.den b.num b.den
 have := h.num
 have := h.den
 have := g.num
 have := g.den
 exact i.sz (by omega) (by omega)
end
section
variable {a b : Rat} {n d m f N D : Int}
theorem plus_r (ha : Is a n d) (hb : Is b m f) (hz : Is (a + b) N D) (sa : Sz a 100000000) (sb : Sz b 100000000) : OpR 200 n d m f N D := by
 obtain ⟨rfl, rfl⟩ := hz.uniq (is_add ha hb)
 have l1 := sa.lz ha
 have l2 := sb.lz hb
 intro V v1 v2 g1 g2
 obtain ⟨A, c, B, e0, rfl, a1, a2⟩ := g1.form
 obtain ⟨A2, c2, B2, e2, rfl, a3, a4⟩ := g2.form
 exact ratio_Plus_own n d m f A B A2 B2 c e0 c2 e2 V a1 a2 a3 a4 l1.1 l1.2 l2.1 l2.2 (by have := ha.pos; omega) (by have := hb.pos; omega)
theorem minus_r (ha : Is a n d) (hb : Is b m f) (hz : Is (a - b) N D) (sa : Sz a 100000000) (sb : Sz b 100000000) : OpR 201 n d m f N D := by
 obtain ⟨rfl, rfl⟩ := hz.uniq (is_sub ha hb)
 have l1 := sa.lz ha
 have l2 := sb.lz hb
 intro V v1 v2 g1 g2
 obtain ⟨A, c, B, e0, rfl, a1, a2⟩ := g1.form
 obtain ⟨A2, c2, B2, e2, rfl, a3, a4⟩ := g2.form
 exact ratio_Minus_own n d m f A B A2 B2 c e0 c2 e2 V a1 a2 a3 a4 l1.1 l1.2 l2.1 l2.2 (by have := ha.pos; omega) (by have := hb.pos; omega)
theorem times_r (ha : Is a n d) (hb : Is b m f) (hz : Is (a * b) N D) (sa : Sz a 100000000) (sb : Sz b 100000000) : OpR 199 n d m f N D := by
 obtain ⟨rfl, rfl⟩ := hz.uniq (is_mul ha hb)
 have l1 := sa.lz ha
 have l2 := sb.lz hb
 intro V v1 v2 g1 g2
 obtain ⟨A, c, B, e0, rfl, a1, a2⟩ := g1.form
 obtain ⟨A2, c2, B2, e2, rfl, a3, a4⟩ := g2.form
 exact ratio_Times_own n d m f A B A2 B2 c e0 c2 e2 V a1 a2 a3 a4 l1.1 l1.2 l2.1 l2.2 (by have := ha.pos; omega) (by have := hb.pos; omega)
end

structure TupF (base : Nat) (n d k : Int) (u : Value) (V : World) : Prop where
 form : ∃ v, u = .tuple #[v, .int .i64 k] /\ Ze V base v n d
structure BlkH (w : World) (g : Nat) (t : TypeId) (cs : Array Value) : Prop where
 blk : Z2 w g t cs

def RetFrac2 (w : World) (n d k : Int) (e : Ending) (w' : World) : Prop := ∃ v, e = .returned (.tuple #[v, .int .i64 k]) /\ ZV w' v n d /\ Below w.heap.size w w'
end Go.Proofs.YtdonecnhdkjniaaGreatDoor
