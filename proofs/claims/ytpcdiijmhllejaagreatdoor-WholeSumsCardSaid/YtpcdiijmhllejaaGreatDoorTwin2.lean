/- More of copies and sizes, for the laws' walks. -/
import Derived.Test.YtpcdiijmhllejaaGreatDoorTwin
import Derived.Test.YtpcdiijmhllejaaGreatDoorCmp2
namespace Go.Proofs.YtpcdiijmhllejaaGreatDoor
open Go.RowKit

theorem beyond_two (n m : Nat) (hn : n ≤ 1152921504606846975) (hm : m ≤ 1152921504606846975) (A : Option Addr) (V : World) (B : Nat) (h : Reads V B 1 A 2 (cellsI [1 + n, 1 + m])) :
    Calls Tryz.prog 6 #[.slice A 2 2] V fun e w' => e = .returned (.bool (decide (1048576 < 2 + n + m))) ∧ Below V.heap.size V w' := by
  refine (beyond_any A 2 [1 + n, 1 + m] (by simp) (by intro z hz; simp at hz; omega) V B h).mono ?_
  rintro e w' ⟨rfl, rfl⟩
  refine ⟨?_, Below.refl _ _⟩
  rw [show [1 + n, 1 + m].sum = 2 + n + m by simp; omega]

theorem Reads.new2 (w : World) (t : TypeId) (a b : Value) : Reads (w.alloc (.cells #[a, b] t)) (w.heap.size + 1) 1 (some ⟨w.heap.size, 0, none⟩) 2 [a, b] :=
  ⟨rfl, fun _ => ⟨⟨w.heap.size, 0, none⟩, rfl, by simp, fun j u hu => by
    have hj : j < 2 := (List.getElem?_eq_some_iff.1 hu).1
    rw [show (⟨w.heap.size, 0, none⟩ : Addr).add j = ⟨w.heap.size, j, none⟩ by unfold Addr.add; split <;> simp_all, (Blk.new w t #[a, b]).cell j, ← hu]
    simp⟩⟩
theorem beyond_new (n m : Nat) (hn : n ≤ 1152921504606846975) (hm : m ≤ 1152921504606846975) (t : TypeId) (V : World) :
    Calls Tryz.prog 6 #[.slice (some ⟨V.heap.size, 0, none⟩) 2 2] (V.alloc (.cells #[.int .i64 (1 + (n : Int)), .int .i64 (1 + (m : Int))] t)) fun e w' => e = .returned (.bool (decide (1048576 < 2 + n + m))) ∧ Below (V.alloc (.cells #[.int .i64 (1 + (n : Int)), .int .i64 (1 + (m : Int))] t)).heap.size (V.alloc (.cells #[.int .i64 (1 + (n : Int)), .int .i64 (1 + (m : Int))] t)) w' := by
  refine beyond_two n m hn hm _ _ (V.heap.size + 1) ?_
  have e : cellsI [1 + n, 1 + m] = [.int .i64 (1 + (n : Int)), .int .i64 (1 + (m : Int))] := by simp [cellsI]
  rw [e]
  exact Reads.new2 V t _ _

theorem below_one {W w : World} (h : Below W.heap.size W w) (o : Obj) : Below W.heap.size W (w.alloc o) := h.alloc h.size o
theorem below_two {W w : World} (h : Below W.heap.size W w) (o p : Obj) : Below W.heap.size W ((w.alloc o).alloc p) := (h.alloc h.size o).alloc (by have := h.size; simp; omega) p

theorem TwinAt.far2 {w : World} {g g' : Nat} {xs : List Nat} (h : TwinAt w g xs) (hn : g ≠ g') (a b : Value) : TwinAt ((w.setCell ⟨g', 0, none⟩ a).setCell ⟨g', 1, none⟩ b) g xs := ⟨h.blk.far2 hn a b⟩
theorem Pair.new' {w : World} {g : Nat} (h : g = w.heap.size) (t : TypeId) (a b : Value) : Pair (w.alloc (.cells #[a, b] t)) g t a b := h ▸ Pair.new w t a b
theorem keep_of {W w' : World} (q : Below W.heap.size W w') : Below W.heap.size W w' ∧ ∀ b o, b < W.heap.size → w'.cell? ⟨b, o, none⟩ = W.cell? ⟨b, o, none⟩ :=
  ⟨q, fun b o h => q.cell (p := ⟨b, o, none⟩) h⟩

end Go.Proofs.YtpcdiijmhllejaaGreatDoor
