/- The contracts of package mat over the ring Told. (Written by wip/mat/gen.py.) -/
import Derived.Test.YtalalbhhlbeghaaRings
import Derived.Test.YtalalbhhlbeghaaWords
import Derived.Test.YtalalbhhlbeghaaRef08
import Derived.WalkKit
import Derived.WalkSpells
import Derived.WalkLawsBesides
import Derived.Deep.RegionHeld3
import Derived.Lib.Hide
namespace Go.Proofs.Ytalalbhhlbeghaa
open Go.RowKit

abbrev toldV (m : M4) : Value := .agg #[.int .i64 m.a, .int .i64 m.b, .int .i64 m.c, .int .i64 m.d]

set_option maxRecDepth 100000 in
set_option maxHeartbeats 400000 in
theorem told_Add (a b : Int) (w : World) :
    Calls Try.prog 98 #[.int .i64 a, .int .i64 b] w fun e w' => e = .returned (.int .i64 (toldR.add a b)) ∧ w = w' := by
  go_enter Try.func98, Try.ntmps98
  go_wp2_with (first | (go_at_call 102; refine (mixed_any _ _ _ _).mono ?_; rintro e w' ⟨rfl, rfl⟩))
  go_ret
  exact ⟨rfl, rfl⟩

set_option maxRecDepth 100000 in
set_option maxHeartbeats 400000 in
theorem told_Mul (a b : Int) (w : World) :
    Calls Try.prog 100 #[.int .i64 a, .int .i64 b] w fun e w' => e = .returned (.int .i64 (toldR.mul a b)) ∧ w = w' := by
  go_enter Try.func100, Try.ntmps100
  go_wp2_with (first | (go_at_call 102; refine (mixed_any _ _ _ _).mono ?_; rintro e w' ⟨rfl, rfl⟩))
  go_ret
  exact ⟨rfl, rfl⟩

set_option maxRecDepth 100000 in
set_option maxHeartbeats 400000 in
theorem told_Neg (a : Int) (w : World) :
    Calls Try.prog 101 #[.int .i64 a] w fun e w' => e = .returned (.int .i64 (toldR.neg a)) ∧ w = w' := by
  go_enter Try.func101, Try.ntmps101
  go_wp2_with (first | (go_at_call 102; refine (mixed_any _ _ _ _).mono ?_; rintro e w' ⟨rfl, rfl⟩))
  go_ret
  exact ⟨rfl, rfl⟩

set_option maxRecDepth 100000 in
set_option maxHeartbeats 400000 in
theorem told_Like (a b : Int) (w : World) :
    Calls Try.prog 99 #[.int .i64 a, .int .i64 b] w fun e w' => e = .returned (.bool (a == b)) ∧ w = w' := by
  go_enter Try.func99, Try.ntmps99
  go_wp2
  go_ret
  exact ⟨rfl, rfl⟩
theorem told_mAdd (x : Int) (w : World) : (method 230 79 (.int .i64 x) "Add").run Try.prog w = .ok (98, .int .i64 x) w := by kernel_rfl
theorem told_mMul (x : Int) (w : World) : (method 230 79 (.int .i64 x) "Mul").run Try.prog w = .ok (100, .int .i64 x) w := by kernel_rfl
theorem told_mNeg (x : Int) (w : World) : (method 230 79 (.int .i64 x) "Neg").run Try.prog w = .ok (101, .int .i64 x) w := by kernel_rfl
theorem told_mLike (x : Int) (w : World) : (method 230 79 (.int .i64 x) "Like").run Try.prog w = .ok (99, .int .i64 x) w := by kernel_rfl

set_option maxRecDepth 100000 in
set_option maxHeartbeats 400000 in
theorem told_dot (a b c d : Int) (w : World) :
    Calls Try.prog 65 #[.int .i64 a, .int .i64 b, .int .i64 c, .int .i64 d] w fun e w' => e = .returned (.int .i64 (toldR.add (toldR.mul a b) (toldR.mul c d))) ∧ w = w' := by
  have q1 := told_mAdd
  have q2 := told_mMul
  have q3 := told_mNeg
  go_enter Try.func65, Try.ntmps65
  go_wp2_with (first | (go_at_call 98; refine (told_Add _ _ _).mono ?_; rintro e w' ⟨rfl, rfl⟩) | (go_at_call 100; refine (told_Mul _ _ _).mono ?_; rintro e w' ⟨rfl, rfl⟩) | (go_at_call 101; refine (told_Neg _ _).mono ?_; rintro e w' ⟨rfl, rfl⟩))
  go_ret
  exact ⟨rfl, rfl⟩

set_option maxRecDepth 100000 in
set_option maxHeartbeats 400000 in
theorem told_Mul4 (m n : M4) (w : World) :
    Calls Try.prog 47 #[toldV m, toldV n] w fun e w' => e = .returned (toldV (M4.gmul toldR m n)) ∧ Below w.heap.size w w' := by
  go_enter Try.func47, Try.ntmps47
  go_wp2_with (go_at_call 65; refine (told_dot _ _ _ _ _).mono ?_; rintro e w' ⟨rfl, rfl⟩)
  exact bodyPost_ret (by simp [results, Try.results47, go_sem]; exact ⟨rfl, rfl, rfl, rfl⟩) rfl ⟨rfl, by repeat (first | exact Below.refl _ _ | apply Below.drew | refine Below.alloc ?_ (by simp; try omega) _)⟩

set_option maxRecDepth 100000 in
set_option maxHeartbeats 400000 in
theorem told_Det4 (m : M4) (w : World) :
    Calls Try.prog 48 #[toldV m] w fun e w' => e = .returned (.int .i64 (M4.gdet toldR m)) ∧ Below w.heap.size w w' := by
  have q1 := told_mAdd
  have q2 := told_mMul
  have q3 := told_mNeg
  go_enter Try.func48, Try.ntmps48
  go_wp2_with (first | (go_at_call 98; refine (told_Add _ _ _).mono ?_; rintro e w' ⟨rfl, rfl⟩) | (go_at_call 100; refine (told_Mul _ _ _).mono ?_; rintro e w' ⟨rfl, rfl⟩) | (go_at_call 101; refine (told_Neg _ _).mono ?_; rintro e w' ⟨rfl, rfl⟩))
  go_ret
  exact ⟨rfl, by repeat (first | exact Below.refl _ _ | apply Below.drew | refine Below.alloc ?_ (by simp; try omega) _)⟩

set_option maxRecDepth 100000 in
set_option maxHeartbeats 400000 in
theorem told_Trace4 (m : M4) (w : World) :
    Calls Try.prog 49 #[toldV m] w fun e w' => e = .returned (.int .i64 (M4.gtrace toldR m)) ∧ Below w.heap.size w w' := by
  have q1 := told_mAdd
  have q2 := told_mMul
  have q3 := told_mNeg
  go_enter Try.func49, Try.ntmps49
  go_wp2_with (first | (go_at_call 98; refine (told_Add _ _ _).mono ?_; rintro e w' ⟨rfl, rfl⟩) | (go_at_call 100; refine (told_Mul _ _ _).mono ?_; rintro e w' ⟨rfl, rfl⟩) | (go_at_call 101; refine (told_Neg _ _).mono ?_; rintro e w' ⟨rfl, rfl⟩))
  go_ret
  exact ⟨rfl, by repeat (first | exact Below.refl _ _ | apply Below.drew | refine Below.alloc ?_ (by simp; try omega) _)⟩

set_option maxRecDepth 100000 in
set_option maxHeartbeats 400000 in
theorem told_Turned4 (m : M4) (w : World) :
    Calls Try.prog 50 #[toldV m] w fun e w' => e = .returned (toldV (M4.gturned toldR m)) ∧ Below w.heap.size w w' := by
  have q1 := told_mAdd
  have q2 := told_mMul
  have q3 := told_mNeg
  go_enter Try.func50, Try.ntmps50
  go_wp2_with fail
  go_region_held3 (fun w' => w'.cell? ⟨w.heap.size, 0, none⟩ = some (.int .i64 m.a) ∧ w'.cell? ⟨w.heap.size, 1, none⟩ = some (.int .i64 m.b) ∧ w'.cell? ⟨w.heap.size, 2, none⟩ = some (.int .i64 m.c) ∧ w'.cell? ⟨w.heap.size, 3, none⟩ = some (.int .i64 m.d)) (go_keep)
    (first | (go_at_call 101; refine (told_Neg _ _).mono ?_; rintro e w' ⟨rfl, rfl⟩))
  go_wp2
  exact bodyPost_ret (by simp [results, Try.results50, go_sem]; exact ⟨rfl, rfl, rfl, rfl⟩) rfl ⟨rfl, by repeat (first | exact Below.refl _ _ | apply Below.drew | refine Below.alloc ?_ (by simp; try omega) _)⟩
end Go.Proofs.Ytalalbhhlbeghaa
