/- A block that holds a matrix, over what a call does. -/
import Derived.Test.YtalalbhhlbeghaaLives
namespace Go.Proofs.Ytalalbhhlbeghaa
open Go.RowKit

/-- Block b holds the matrix m. -/
structure At (w : World) (b : Nat) (m : M4) : Prop where
  lt : b < w.heap.size
  c0 : w.cell? ⟨b, 0, none⟩ = some (.int .i64 m.a)
  c1 : w.cell? ⟨b, 1, none⟩ = some (.int .i64 m.b)
  c2 : w.cell? ⟨b, 2, none⟩ = some (.int .i64 m.c)
  c3 : w.cell? ⟨b, 3, none⟩ = some (.int .i64 m.d)

theorem At.below {w w' : World} {b : Nat} {m : M4} (h : At w b m) (hb : Below w.heap.size w w') : At w' b m :=
  ⟨Nat.lt_of_lt_of_le h.lt hb.size, by rw [hb.cell h.lt]; exact h.c0, by rw [hb.cell h.lt]; exact h.c1, by rw [hb.cell h.lt]; exact h.c2, by rw [hb.cell h.lt]; exact h.c3⟩
theorem At.alloc {w : World} {b : Nat} {m : M4} (h : At w b m) (o : Obj) : At (w.alloc o) b m :=
  h.below ((Below.refl _ _).alloc (Nat.le_refl _) o)
theorem At.step {w w' : World} {b : Nat} {m : M4} {o : Obj} (h : At w b m) (hb : Below (w.alloc o).heap.size (w.alloc o) w') : At w' b m := (h.alloc o).below hb
theorem At.new (w : World) (m : M4) (t : TypeId) : At (w.alloc (.cells #[.int .i64 m.a, .int .i64 m.b, .int .i64 m.c, .int .i64 m.d] t)) w.heap.size m :=
  ⟨by simp, by simp [World.cell?_alloc_new], by simp [World.cell?_alloc_new], by simp [World.cell?_alloc_new], by simp [World.cell?_alloc_new]⟩
theorem bstep {W w w' : World} {o : Obj} (h : Below W.heap.size W w) (hb : Below (w.alloc o).heap.size (w.alloc o) w') : Below W.heap.size W w' :=
  (h.alloc h.size o).trans (hb.mono (by have := h.size; simp; omega))
theorem bfirst {w w' : World} {o : Obj} (hb : Below (w.alloc o).heap.size (w.alloc o) w') : Below w.heap.size w w' := bstep (Below.refl _ w) hb
theorem bfirst2 {w w' : World} {o p : Obj} (hb : Below ((w.alloc o).alloc p).heap.size ((w.alloc o).alloc p) w') : Below w.heap.size w w' := bfirst (bfirst hb)
theorem bfirst3 {w w' : World} {o p q : Obj} (hb : Below (((w.alloc o).alloc p).alloc q).heap.size (((w.alloc o).alloc p).alloc q) w') : Below w.heap.size w w' := bfirst (bfirst2 hb)
theorem At.new1 (w : World) (m : M4) (t u : TypeId) (o : Array Value) : At ((w.alloc (.cells o u)).alloc (.cells #[.int .i64 m.a, .int .i64 m.b, .int .i64 m.c, .int .i64 m.d] t)) (w.heap.size + 1) m := by
  have h := At.new (w.alloc (.cells o u)) m t
  simpa using h
theorem At.new2 (w : World) (m : M4) (t u v : TypeId) (o p : Array Value) : At (((w.alloc (.cells o u)).alloc (.cells p v)).alloc (.cells #[.int .i64 m.a, .int .i64 m.b, .int .i64 m.c, .int .i64 m.d] t)) (w.heap.size + 1 + 1) m := by
  have h := At.new ((w.alloc (.cells o u)).alloc (.cells p v)) m t
  simpa using h
end Go.Proofs.Ytalalbhhlbeghaa
