/- lives: a product is as it should be. -/
import Derived.Test.YtalalbhhlbeghaaMat
namespace Go.Proofs.Ytalalbhhlbeghaa
open Go.RowKit

theorem M4.lives_eq : M4.mul ⟨1, 2, 3, 4⟩ ⟨5, 6, 7, 8⟩ = ⟨19, 22, 43, 50⟩ := by simp [M4.mul, wrap64]
theorem M4.lives_det : M4.det ⟨1, 2, 3, 4⟩ = -2 := by simp [M4.det, wrap64]
theorem lives_mul (w : World) : Calls Try.prog 10 #[mv ⟨1, 2, 3, 4⟩, mv ⟨5, 6, 7, 8⟩] w fun e w' => e = .returned (mv ⟨19, 22, 43, 50⟩) ∧ Below w.heap.size w w' := by
  have h := wrap_Mul ⟨1, 2, 3, 4⟩ ⟨5, 6, 7, 8⟩ w
  rwa [M4.lives_eq] at h

theorem lives_det (w : World) : Calls Try.prog 11 #[mv ⟨1, 2, 3, 4⟩] w fun e w' => e = .returned (.int .i64 (-2)) ∧ Below w.heap.size w w' := by
  have h := wrap_Det ⟨1, 2, 3, 4⟩ w
  rwa [M4.lives_det] at h

/-- Two steps of a call's own: what was there at the first step is there behind the second. -/
theorem belowStep {W a b : World} (h : Below W.heap.size W a) (k : Below a.heap.size a b) : Below W.heap.size W b := h.trans (k.mono h.size)

set_option maxRecDepth 100000 in
set_option maxHeartbeats 400000 in
theorem lives_true (w : World) :
    Calls Try.prog 14 #[] w fun e w' => e = .returned (.bool true) ∧ Below w.heap.size w w' := by
  go_enter Try.func14, Try.ntmps14
  go_wp2_with fail
  refine (wrap_Wrap ⟨1, 2, 3, 4⟩ _).mono ?_; rintro e w1 ⟨rfl, hb1⟩
  go_wp2_with fail
  refine (wrap_Wrap ⟨5, 6, 7, 8⟩ _).mono ?_; rintro e w2 ⟨rfl, hb2⟩
  go_wp2_with fail
  refine (lives_mul _).mono ?_; rintro e w3 ⟨rfl, hb3⟩
  have hb := belowStep (belowStep hb1 hb2) hb3
  clear hb1 hb2 hb3
  have hs := hb.size
  go_wp2_with fail
  go_region_held3 (fun w' => Below w.heap.size w w' ∧ w3.heap.size < w'.heap.size ∧ w'.cell? ⟨w3.heap.size, 0, none⟩ = some (.int .i64 19) ∧ w'.cell? ⟨w3.heap.size, 1, none⟩ = some (.int .i64 22) ∧ w'.cell? ⟨w3.heap.size, 2, none⟩ = some (.int .i64 43) ∧ w'.cell? ⟨w3.heap.size, 3, none⟩ = some (.int .i64 50))
    (first
      | exact ⟨(hb.alloc hs _), by simp, by simp [World.cell?_alloc_new], by simp [World.cell?_alloc_new], by simp [World.cell?_alloc_new], by simp [World.cell?_alloc_new]⟩
      | exact ⟨(hb.alloc hs _).drew, by simp, by simp [World.cell?_alloc_new], by simp [World.cell?_alloc_new], by simp [World.cell?_alloc_new], by simp [World.cell?_alloc_new]⟩
      | (obtain ⟨q1, q2, q3, q4, q5, q6⟩ := ‹Below w.heap.size w _ ∧ _›; exact ⟨belowStep q1 hbx, Nat.lt_of_lt_of_le q2 hbx.size, by rw [hbx.cell q2]; exact q3, by rw [hbx.cell q2]; exact q4, by rw [hbx.cell q2]; exact q5, by rw [hbx.cell q2]; exact q6⟩))
    (first
      | (go_at_call 9; refine (wrap_Wrap0 _ _ _ _ _).mono ?_; rintro e wx ⟨rfl, hbx⟩)
      | (go_at_call 11; refine (lives_det _).mono ?_; rintro e wx ⟨rfl, hbx⟩))
  obtain ⟨q1, q2⟩ := ‹Below w.heap.size w _ ∧ _›
  go_wp2
  go_ret
  exact ⟨rfl, q1⟩
end Go.Proofs.Ytalalbhhlbeghaa
