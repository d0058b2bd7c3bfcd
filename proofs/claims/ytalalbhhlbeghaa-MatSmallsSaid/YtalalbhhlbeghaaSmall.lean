/- The contracts of package mat over the ring Small. (Written by wip/mat/gen.py.) -/
import Derived.Test.YtalalbhhlbeghaaRings
import Derived.Test.YtalalbhhlbeghaaWords
import Derived.WalkKit
import Derived.WalkSpells
import Derived.WalkLawsBesides
import Derived.Deep.RegionHeld3
import Derived.Lib.Hide
namespace Go.Proofs.Ytalalbhhlbeghaa
open Go.RowKit

abbrev smallV (m : M4) : Value := .agg #[.int .i8 m.a, .int .i8 m.b, .int .i8 m.c, .int .i8 m.d]

set_option maxRecDepth 100000 in
set_option maxHeartbeats 400000 in
theorem small_Add (a b : Int) (w : World) :
    Calls Try.prog 94 #[.int .i8 a, .int .i8 b] w fun e w' => e = .returned (.int .i8 (smallR.add a b)) ∧ w = w' := by
  go_enter Try.func94, Try.ntmps94
  go_wp2
  go_ret
  exact ⟨rfl, rfl⟩

set_option maxRecDepth 100000 in
set_option maxHeartbeats 400000 in
theorem small_Mul (a b : Int) (w : World) :
    Calls Try.prog 21 #[.int .i8 a, .int .i8 b] w fun e w' => e = .returned (.int .i8 (smallR.mul a b)) ∧ w = w' := by
  go_enter Try.func21, Try.ntmps21
  go_wp2
  go_ret
  exact ⟨rfl, rfl⟩

set_option maxRecDepth 100000 in
set_option maxHeartbeats 400000 in
theorem small_Neg (a : Int) (w : World) :
    Calls Try.prog 22 #[.int .i8 a] w fun e w' => e = .returned (.int .i8 (smallR.neg a)) ∧ w = w' := by
  go_enter Try.func22, Try.ntmps22
  go_wp2
  go_ret
  exact ⟨rfl, rfl⟩

set_option maxRecDepth 100000 in
set_option maxHeartbeats 400000 in
theorem small_Like (a b : Int) (w : World) :
    Calls Try.prog 95 #[.int .i8 a, .int .i8 b] w fun e w' => e = .returned (.bool (a == b)) ∧ w = w' := by
  go_enter Try.func95, Try.ntmps95
  go_wp2
  go_ret
  exact ⟨rfl, rfl⟩
theorem small_mAdd (x : Int) (w : World) : (method 230 36 (.int .i8 x) "Add").run Try.prog w = .ok (94, .int .i8 x) w := by kernel_rfl
theorem small_mMul (x : Int) (w : World) : (method 230 36 (.int .i8 x) "Mul").run Try.prog w = .ok (21, .int .i8 x) w := by kernel_rfl
theorem small_mNeg (x : Int) (w : World) : (method 230 36 (.int .i8 x) "Neg").run Try.prog w = .ok (22, .int .i8 x) w := by kernel_rfl
theorem small_mLike (x : Int) (w : World) : (method 230 36 (.int .i8 x) "Like").run Try.prog w = .ok (95, .int .i8 x) w := by kernel_rfl

set_option maxRecDepth 100000 in
set_option maxHeartbeats 400000 in
theorem small_dot (a b c d : Int) (w : World) :
    Calls Try.prog 56 #[.int .i8 a, .int .i8 b, .int .i8 c, .int .i8 d] w fun e w' => e = .returned (.int .i8 (smallR.add (smallR.mul a b) (smallR.mul c d))) ∧ w = w' := by
  have q1 := small_mAdd
  have q2 := small_mMul
  have q3 := small_mNeg
  go_enter Try.func56, Try.ntmps56
  go_wp2_with (first | (go_at_call 94; refine (small_Add _ _ _).mono ?_; rintro e w' ⟨rfl, rfl⟩) | (go_at_call 21; refine (small_Mul _ _ _).mono ?_; rintro e w' ⟨rfl, rfl⟩) | (go_at_call 22; refine (small_Neg _ _).mono ?_; rintro e w' ⟨rfl, rfl⟩))
  go_ret
  exact ⟨rfl, rfl⟩

set_option maxRecDepth 100000 in
set_option maxHeartbeats 400000 in
theorem small_Mul4 (m n : M4) (w : World) :
    Calls Try.prog 17 #[smallV m, smallV n] w fun e w' => e = .returned (smallV (M4.gmul smallR m n)) ∧ Below w.heap.size w w' := by
  go_enter Try.func17, Try.ntmps17
  go_wp2_with (go_at_call 56; refine (small_dot _ _ _ _ _).mono ?_; rintro e w' ⟨rfl, rfl⟩)
  exact bodyPost_ret (by simp [results, Try.results17, go_sem]; exact ⟨rfl, rfl, rfl, rfl⟩) rfl ⟨rfl, by repeat (first | exact Below.refl _ _ | apply Below.drew | refine Below.alloc ?_ (by simp; try omega) _)⟩

set_option maxRecDepth 100000 in
set_option maxHeartbeats 400000 in
theorem small_Det4 (m : M4) (w : World) :
    Calls Try.prog 40 #[smallV m] w fun e w' => e = .returned (.int .i8 (M4.gdet smallR m)) ∧ Below w.heap.size w w' := by
  have q1 := small_mAdd
  have q2 := small_mMul
  have q3 := small_mNeg
  go_enter Try.func40, Try.ntmps40
  go_wp2_with (first | (go_at_call 94; refine (small_Add _ _ _).mono ?_; rintro e w' ⟨rfl, rfl⟩) | (go_at_call 21; refine (small_Mul _ _ _).mono ?_; rintro e w' ⟨rfl, rfl⟩) | (go_at_call 22; refine (small_Neg _ _).mono ?_; rintro e w' ⟨rfl, rfl⟩))
  go_ret
  exact ⟨rfl, by repeat (first | exact Below.refl _ _ | apply Below.drew | refine Below.alloc ?_ (by simp; try omega) _)⟩

set_option maxRecDepth 100000 in
set_option maxHeartbeats 400000 in
theorem small_Trace4 (m : M4) (w : World) :
    Calls Try.prog 41 #[smallV m] w fun e w' => e = .returned (.int .i8 (M4.gtrace smallR m)) ∧ Below w.heap.size w w' := by
  have q1 := small_mAdd
  have q2 := small_mMul
  have q3 := small_mNeg
  go_enter Try.func41, Try.ntmps41
  go_wp2_with (first | (go_at_call 94; refine (small_Add _ _ _).mono ?_; rintro e w' ⟨rfl, rfl⟩) | (go_at_call 21; refine (small_Mul _ _ _).mono ?_; rintro e w' ⟨rfl, rfl⟩) | (go_at_call 22; refine (small_Neg _ _).mono ?_; rintro e w' ⟨rfl, rfl⟩))
  go_ret
  exact ⟨rfl, by repeat (first | exact Below.refl _ _ | apply Below.drew | refine Below.alloc ?_ (by simp; try omega) _)⟩

set_option maxRecDepth 100000 in
set_option maxHeartbeats 400000 in
theorem small_Turned4 (m : M4) (w : World) :
    Calls Try.prog 42 #[smallV m] w fun e w' => e = .returned (smallV (M4.gturned smallR m)) ∧ Below w.heap.size w w' := by
  have q1 := small_mAdd
  have q2 := small_mMul
  have q3 := small_mNeg
  go_enter Try.func42, Try.ntmps42
  go_wp2_with fail
  go_region_held3 (fun w' => w'.cell? ⟨w.heap.size, 0, none⟩ = some (.int .i8 m.a) ∧ w'.cell? ⟨w.heap.size, 1, none⟩ = some (.int .i8 m.b) ∧ w'.cell? ⟨w.heap.size, 2, none⟩ = some (.int .i8 m.c) ∧ w'.cell? ⟨w.heap.size, 3, none⟩ = some (.int .i8 m.d)) (go_keep)
    (first | (go_at_call 22; refine (small_Neg _ _).mono ?_; rintro e w' ⟨rfl, rfl⟩))
  go_wp2
  exact bodyPost_ret (by simp [results, Try.results42, go_sem]; exact ⟨rfl, rfl, rfl, rfl⟩) rfl ⟨rfl, by repeat (first | exact Below.refl _ _ | apply Below.drew | refine Below.alloc ?_ (by simp; try omega) _)⟩
end Go.Proofs.Ytalalbhhlbeghaa
