/- A slice of Fours, as it is read. -/
import Derived.Test.YtalalbhhlbeghaaFields
import Derived.Test.YtalalbhhlbeghaaWords
import Derived.Test.YtalalbhhlbeghaaFour
namespace Go.Proofs.Ytalalbhhlbeghaa
open Go.ChangeShapes Go.WideShapes Go.ChangeAt Go.RowKit Go.Deep

def fourCells (l : List M4) : List Value := l.flatMap fun m => [.int .i64 m.a, .int .i64 m.b, .int .i64 m.c, .int .i64 m.d]

set_option maxRecDepth 100000 in
theorem open_fours {H : Type} {enc : TypeId × Value → H} {w : World} {base : Nat} {r : Reach} {b0 : Nat} {spare : Nat → Bool} {held : Bool} {v : Value} {d : DataW H} {p : List MemPlace}
    (hv : Value.okWide Try.prog w r b0 34 v) (h : DataW.Trod enc Try.prog w base spare held 34 v d p) :
    ∃ (A : Option Addr) (l : List M4) (cap : Nat), v = .slice A l.length cap ∧ Reads w w.heap.size 4 A l.length (fourCells l) ∧ l.length ≤ 9223372036854775807 ∧ ∀ m ∈ l, m.Wf := by
  obtain ⟨a0, len, cap, rfl⟩ := okWide_slice Try.underlying34 hv
  obtain ⟨fuel, hf⟩ := h
  rcases open_slice_fields Try.underlying34 Try.underlying23 (by kernel_rfl) Try.cells23 hf with ⟨hcs, _⟩ | ⟨a, len', cap', m, D, Pl, hcs, _, hl, hm, hmm, _, hcell⟩
  · simp [Value.cells] at hcs
    obtain ⟨rfl, rfl, rfl⟩ := hcs
    exact ⟨none, [], 0, rfl, Reads.none_, by simp, by simp⟩
  · simp [Value.cells] at hcs
    obtain ⟨rfl, rfl, rfl⟩ := hcs
    have hlm : len ≤ m := by rw [hmm]; split <;> omega
    have hex : ∀ i, ∃ q : M4, i < m → q.Wf ∧ w.cell? (a.add (i * 4)) = some (.int .i64 q.a) ∧ w.cell? (a.add (i * 4 + 1)) = some (.int .i64 q.b) ∧ w.cell? (a.add (i * 4 + 2)) = some (.int .i64 q.c) ∧ w.cell? (a.add (i * 4 + 3)) = some (.int .i64 q.d) := by
      intro i
      by_cases hi : i < m
      · obtain ⟨ys, n, _, _, _, hfl⟩ := hcell i hi
        obtain ⟨u0, y0, k0, _, t0⟩ := hfl 0 _ rfl
        obtain ⟨u1, y1, k1, _, t1⟩ := hfl 1 _ rfl
        obtain ⟨u2, y2, k2, _, t2⟩ := hfl 2 _ rfl
        obtain ⟨u3, y3, k3, _, t3⟩ := hfl 3 _ rfl
        obtain ⟨x0, e0, rfl, w0⟩ := DataW.trod_int Try.underlying2 t0
        obtain ⟨x1, e1, rfl, w1⟩ := DataW.trod_int Try.underlying2 t1
        obtain ⟨x2, e2, rfl, w2⟩ := DataW.trod_int Try.underlying2 t2
        obtain ⟨x3, e3, rfl, w3⟩ := DataW.trod_int Try.underlying2 t3
        simp at e0 e1 e2 e3
        subst e0 e1 e2 e3
        exact ⟨⟨x0, x1, x2, x3⟩, fun _ => ⟨⟨w0, w1, w2, w3⟩, k0, k1, k2, k3⟩⟩
      · exact ⟨⟨0, 0, 0, 0⟩, fun h => absurd h hi⟩
    let f : Nat → M4 := fun i => Classical.choose (hex i)
    have hf2 : ∀ i, i < m → (f i).Wf ∧ w.cell? (a.add (i * 4)) = some (.int .i64 (f i).a) ∧ w.cell? (a.add (i * 4 + 1)) = some (.int .i64 (f i).b) ∧ w.cell? (a.add (i * 4 + 2)) = some (.int .i64 (f i).c) ∧ w.cell? (a.add (i * 4 + 3)) = some (.int .i64 (f i).d) := fun i => Classical.choose_spec (hex i)
    refine ⟨some a, (List.range len).map f, cap, by simp, ⟨?_, fun hn => ⟨a, rfl, ?_, ?_⟩⟩, by simp; unfold maxLen at hm; omega, ?_⟩
    · unfold fourCells; rw [flat4_length]
    · simp at hn
      have := (hf2 0 (by omega)).2.1
      have hb := World.block_lt_of_cell? w _ this
      rwa [block_of_add] at hb
    · intro j u hu
      have hj : j < ((List.range len).map f).length * 4 := by
        have h := (List.getElem?_eq_some_iff.1 hu).1
        unfold fourCells at h
        rwa [flat4_length] at h
      simp at hj
      have hk : j / 4 < ((List.range len).map f).length := by simp; omega
      obtain ⟨e0, e1, e2, e3⟩ := flat4 (fun m : M4 => Value.int .i64 m.a) (fun m => .int .i64 m.b) (fun m => .int .i64 m.c) (fun m => .int .i64 m.d) ((List.range len).map f) (j / 4) hk
      obtain ⟨_, g0, g1, g2, g3⟩ := hf2 (j / 4) (by omega)
      simp only [List.getElem_map, List.getElem_range] at e0 e1 e2 e3
      unfold fourCells at hu
      have hj4 : j % 4 = 0 ∨ j % 4 = 1 ∨ j % 4 = 2 ∨ j % 4 = 3 := by omega
      rcases hj4 with h4 | h4 | h4 | h4
      · have hjj : j = j / 4 * 4 := by omega
        rw [hjj] at hu ⊢; rw [e0] at hu; rw [← hu]; exact g0
      · have hjj : j = j / 4 * 4 + 1 := by omega
        rw [hjj] at hu ⊢; rw [e1] at hu; rw [← hu]; exact g1
      · have hjj : j = j / 4 * 4 + 2 := by omega
        rw [hjj] at hu ⊢; rw [e2] at hu; rw [← hu]; exact g2
      · have hjj : j = j / 4 * 4 + 3 := by omega
        rw [hjj] at hu ⊢; rw [e3] at hu; rw [← hu]; exact g3
    · intro q hq
      simp at hq
      obtain ⟨i, hi, rfl⟩ := hq
      exact (hf2 i (by omega)).1
end Go.Proofs.Ytalalbhhlbeghaa
