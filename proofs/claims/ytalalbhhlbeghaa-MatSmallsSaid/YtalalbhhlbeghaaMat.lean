/- Contracts of the matrix functions over Wrap. -/
import Derived.Test.YtalalbhhlbeghaaFour
import Derived.WalkKit
import Derived.WalkSpells
import Derived.WalkLawsBesides
import Derived.Deep.RegionHeld3
namespace Go.Proofs.Ytalalbhhlbeghaa
open Go.RowKit

set_option maxHeartbeats 400000 in
theorem wrap_mul (a b : Int) (w : World) :
    Calls Try.prog 92 #[.int .i64 a, .int .i64 b] w fun e w' => e = .returned (.int .i64 (wrap64 (a * b))) ∧ w = w' := by
  go_enter Try.func92, Try.ntmps92
  go_wp2
  go_ret
  exact ⟨rfl, rfl⟩
theorem meth_mul (x : Int) (w : World) : (method 230 24 (.int .i64 x) "Mul").run Try.prog w = .ok (92, .int .i64 x) w := by kernel_rfl
theorem meth_add (x : Int) (w : World) : (method 230 24 (.int .i64 x) "Add").run Try.prog w = .ok (20, .int .i64 x) w := by kernel_rfl
theorem meth_neg (x : Int) (w : World) : (method 230 24 (.int .i64 x) "Neg").run Try.prog w = .ok (93, .int .i64 x) w := by kernel_rfl

set_option maxRecDepth 100000 in
set_option maxHeartbeats 400000 in
theorem wrap_dot (a b c d : Int) (w : World) :
    Calls Try.prog 54 #[.int .i64 a, .int .i64 b, .int .i64 c, .int .i64 d] w fun e w' => e = .returned (.int .i64 (wrap64 (wrap64 (a * b) + wrap64 (c * d)))) ∧ w = w' := by
  have m1 := meth_mul
  have m2 := meth_add
  go_enter Try.func54, Try.ntmps54
  go_wp2
  go_ret
  exact ⟨rfl, rfl⟩

set_option maxRecDepth 100000 in
set_option maxHeartbeats 400000 in
theorem wrap_Mul0 (a b c d a' b' c' d' : Int) (w : World) :
    Calls Try.prog 10 #[.agg #[.int .i64 a, .int .i64 b, .int .i64 c, .int .i64 d], .agg #[.int .i64 a', .int .i64 b', .int .i64 c', .int .i64 d']] w fun e w' => e = .returned (.agg #[.int .i64 (wrap64 (wrap64 (a * a') + wrap64 (b * c'))), .int .i64 (wrap64 (wrap64 (a * b') + wrap64 (b * d'))), .int .i64 (wrap64 (wrap64 (c * a') + wrap64 (d * c'))), .int .i64 (wrap64 (wrap64 (c * b') + wrap64 (d * d')))]) ∧ Below w.heap.size w w' := by
  go_enter Try.func10, Try.ntmps10
  go_wp2_with (go_at_call 54; refine (wrap_dot _ _ _ _ _).mono ?_; rintro e w' ⟨rfl, rfl⟩)
  exact bodyPost_ret (by simp [results, Try.results10, go_sem]) rfl ⟨rfl, by repeat (first | exact Below.refl _ _ | apply Below.drew | refine Below.alloc ?_ (by simp; try omega) _)⟩


theorem wrap_Mul (m n : M4) (w : World) :
    Calls Try.prog 10 #[mv m, mv n] w fun e w' => e = .returned (mv (M4.mul m n)) ∧ Below w.heap.size w w' :=
  wrap_Mul0 _ _ _ _ _ _ _ _ w

set_option maxRecDepth 100000 in
set_option maxHeartbeats 400000 in
theorem wrap_Det (m : M4) (w : World) :
    Calls Try.prog 11 #[mv m] w fun e w' => e = .returned (.int .i64 (M4.det m)) ∧ Below w.heap.size w w' := by
  have m1 := meth_mul
  have m2 := meth_add
  have m3 := meth_neg
  go_enter Try.func11, Try.ntmps11
  go_wp2
  go_ret
  exact ⟨rfl, by repeat (first | exact Below.refl _ _ | apply Below.drew | refine Below.alloc ?_ (by simp; try omega) _)⟩

set_option maxRecDepth 100000 in
set_option maxHeartbeats 400000 in
theorem wrap_Trace (m : M4) (w : World) :
    Calls Try.prog 12 #[mv m] w fun e w' => e = .returned (.int .i64 (M4.trace m)) ∧ Below w.heap.size w w' := by
  have m2 := meth_add
  go_enter Try.func12, Try.ntmps12
  go_wp2
  go_ret
  exact ⟨rfl, by repeat (first | exact Below.refl _ _ | apply Below.drew | refine Below.alloc ?_ (by simp; try omega) _)⟩

set_option maxRecDepth 100000 in
set_option maxHeartbeats 400000 in
theorem wrap_Wrap0 (a b c d : Int) (w : World) :
    Calls Try.prog 9 #[.agg #[.int .i64 a, .int .i64 b, .int .i64 c, .int .i64 d]] w fun e w' => e = .returned (.agg #[.int .i64 a, .int .i64 b, .int .i64 c, .int .i64 d]) ∧ Below w.heap.size w w' := by
  go_enter Try.func9, Try.ntmps9
  go_wp2
  exact bodyPost_ret (by simp [results, Try.results9, go_sem]) rfl ⟨rfl, by repeat (first | exact Below.refl _ _ | apply Below.drew | refine Below.alloc ?_ (by simp; try omega) _)⟩

theorem wrap_Wrap (m : M4) (w : World) :
    Calls Try.prog 9 #[mv m] w fun e w' => e = .returned (mv m) ∧ Below w.heap.size w w' := wrap_Wrap0 _ _ _ _ w

theorem wrap_neg (a : Int) (w : World) :
    Calls Try.prog 93 #[.int .i64 a] w fun e w' => e = .returned (.int .i64 (wrap64 (-a))) ∧ w' = w := by
  go_enter Try.func93, Try.ntmps93
  go_wp2
  go_ret
  exact ⟨rfl, rfl⟩

set_option maxRecDepth 100000 in
set_option maxHeartbeats 400000 in
theorem wrap_Turned (m : M4) (w : World) :
    Calls Try.prog 13 #[mv m] w fun e w' => e = .returned (mv (M4.turned m)) ∧ Below w.heap.size w w' := by
  have m3 := meth_neg
  go_enter Try.func13, Try.ntmps13
  go_wp2_with fail
  go_region_held3 (fun w' => w'.cell? ⟨w.heap.size, 0, none⟩ = some (.int .i64 m.a) ∧ w'.cell? ⟨w.heap.size, 1, none⟩ = some (.int .i64 m.b) ∧ w'.cell? ⟨w.heap.size, 2, none⟩ = some (.int .i64 m.c) ∧ w'.cell? ⟨w.heap.size, 3, none⟩ = some (.int .i64 m.d)) (go_keep)
    (first | (go_at_call 93; refine (wrap_neg _ _).mono ?_; rintro e w' ⟨rfl, rfl⟩))
  go_wp2
  exact bodyPost_ret (by simp [results, Try.results13, go_sem]; exact ⟨rfl, rfl, rfl, rfl⟩) rfl ⟨rfl, by repeat (first | exact Below.refl _ _ | apply Below.drew | refine Below.alloc ?_ (by simp; try omega) _)⟩
end Go.Proofs.Ytalalbhhlbeghaa
