/- A block that holds a matrix over numbers of 8 bits. -/
import Derived.Test.YtalalbhhlbeghaaAt
import Derived.Test.YtalalbhhlbeghaaSmall
import Derived.Test.YtalalbhhlbeghaaMonoid
namespace Go.Proofs.Ytalalbhhlbeghaa
open Go.RowKit
theorem wrap8_0 : IntKind.i8.wrap 0 = 0 := by decide
theorem wrap8_1 : IntKind.i8.wrap 1 = 1 := by decide
structure AtS (w : World) (b : Nat) (m : M4) : Prop where
  lt : b < w.heap.size
  c0 : w.cell? ⟨b, 0, none⟩ = some (.int .i8 m.a)
  c1 : w.cell? ⟨b, 1, none⟩ = some (.int .i8 m.b)
  c2 : w.cell? ⟨b, 2, none⟩ = some (.int .i8 m.c)
  c3 : w.cell? ⟨b, 3, none⟩ = some (.int .i8 m.d)
theorem AtS.below {w w' : World} {b : Nat} {m : M4} (h : AtS w b m) (hb : Below w.heap.size w w') : AtS w' b m :=
  ⟨Nat.lt_of_lt_of_le h.lt hb.size, by rw [hb.cell h.lt]; exact h.c0, by rw [hb.cell h.lt]; exact h.c1, by rw [hb.cell h.lt]; exact h.c2, by rw [hb.cell h.lt]; exact h.c3⟩
theorem AtS.alloc {w : World} {b : Nat} {m : M4} (h : AtS w b m) (o : Obj) : AtS (w.alloc o) b m :=
  h.below ((Below.refl _ _).alloc (Nat.le_refl _) o)
theorem AtS.step {w w' : World} {b : Nat} {m : M4} {o : Obj} (h : AtS w b m) (hb : Below (w.alloc o).heap.size (w.alloc o) w') : AtS w' b m := (h.alloc o).below hb
theorem AtS.new (w : World) (m : M4) (t : TypeId) : AtS (w.alloc (.cells #[.int .i8 m.a, .int .i8 m.b, .int .i8 m.c, .int .i8 m.d] t)) w.heap.size m :=
  ⟨by simp, by simp [World.cell?_alloc_new], by simp [World.cell?_alloc_new], by simp [World.cell?_alloc_new], by simp [World.cell?_alloc_new]⟩

/-- The numbers of 8 bits. -/
def M4.low (m : M4) : M4 := ⟨IntKind.i8.wrap m.a, IntKind.i8.wrap m.b, IntKind.i8.wrap m.c, IntKind.i8.wrap m.d⟩
theorem M4.low_ok (m : M4) : m.low.okM H8 := by
  simp only [M4.okM, M4.low, wrap8_M]
  exact ⟨wrapM_wrapM _ _, wrapM_wrapM _ _, wrapM_wrapM _ _, wrapM_wrapM _ _⟩

set_option maxRecDepth 100000 in
set_option maxHeartbeats 400000 in
theorem small_Small0 (a b c d : Int) (w : World) :
    Calls Try.prog 15 #[.agg #[.int .i64 a, .int .i64 b, .int .i64 c, .int .i64 d]] w fun e w' => e = .returned (.agg #[.int .i8 (IntKind.i8.wrap a), .int .i8 (IntKind.i8.wrap b), .int .i8 (IntKind.i8.wrap c), .int .i8 (IntKind.i8.wrap d)]) ∧ Below w.heap.size w w' := by
  go_enter Try.func15, Try.ntmps15
  go_wp2
  exact bodyPost_ret (by simp [results, Try.results15, go_sem]) rfl ⟨rfl, by repeat (first | exact Below.refl _ _ | apply Below.drew | refine Below.alloc ?_ (by simp; try omega) _)⟩
theorem small_Small (m : M4) (w : World) :
    Calls Try.prog 15 #[mv m] w fun e w' => e = .returned (smallV m.low) ∧ Below w.heap.size w w' := small_Small0 _ _ _ _ w
theorem small_one (w : World) :
    Calls Try.prog 15 #[.agg #[.int .i64 1, .int .i64 0, .int .i64 0, .int .i64 1]] w fun e w' => e = .returned (smallV M4.one) ∧ Below w.heap.size w w' := by
  have h := small_Small M4.one w
  rwa [show M4.one.low = M4.one by simp [M4.low, M4.one, wrap8_0, wrap8_1]] at h
end Go.Proofs.Ytalalbhhlbeghaa
