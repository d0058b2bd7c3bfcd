/- The contracts of package mat over the ring Wrap. (Written by wip/mat/gen.py.) -/
import Derived.Test.YtalalbhhlbeghaaRings
import Derived.Test.YtalalbhhlbeghaaWords
import Derived.WalkKit
import Derived.WalkSpells
import Derived.WalkLawsBesides
import Derived.Deep.RegionHeld3
import Derived.Lib.Hide
namespace Go.Proofs.Ytalalbhhlbeghaa
open Go.RowKit

abbrev wrpV (m : M4) : Value := .agg #[.int .i64 m.a, .int .i64 m.b, .int .i64 m.c, .int .i64 m.d]

set_option maxRecDepth 100000 in
set_option maxHeartbeats 400000 in
theorem wrp_Add (a b : Int) (w : World) :
    Calls Try.prog 20 #[.int .i64 a, .int .i64 b] w fun e w' => e = .returned (.int .i64 (wrapR.add a b)) ∧ w = w' := by
  go_enter Try.func20, Try.ntmps20
  go_wp2
  go_ret
  exact ⟨rfl, rfl⟩

set_option maxRecDepth 100000 in
set_option maxHeartbeats 400000 in
theorem wrp_Mul (a b : Int) (w : World) :
    Calls Try.prog 92 #[.int .i64 a, .int .i64 b] w fun e w' => e = .returned (.int .i64 (wrapR.mul a b)) ∧ w = w' := by
  go_enter Try.func92, Try.ntmps92
  go_wp2
  go_ret
  exact ⟨rfl, rfl⟩

set_option maxRecDepth 100000 in
set_option maxHeartbeats 400000 in
theorem wrp_Neg (a : Int) (w : World) :
    Calls Try.prog 93 #[.int .i64 a] w fun e w' => e = .returned (.int .i64 (wrapR.neg a)) ∧ w = w' := by
  go_enter Try.func93, Try.ntmps93
  go_wp2
  go_ret
  exact ⟨rfl, rfl⟩

set_option maxRecDepth 100000 in
set_option maxHeartbeats 400000 in
theorem wrp_Like (a b : Int) (w : World) :
    Calls Try.prog 91 #[.int .i64 a, .int .i64 b] w fun e w' => e = .returned (.bool (a == b)) ∧ w = w' := by
  go_enter Try.func91, Try.ntmps91
  go_wp2
  go_ret
  exact ⟨rfl, rfl⟩
theorem wrp_mAdd (x : Int) (w : World) : (method 230 24 (.int .i64 x) "Add").run Try.prog w = .ok (20, .int .i64 x) w := by kernel_rfl
theorem wrp_mMul (x : Int) (w : World) : (method 230 24 (.int .i64 x) "Mul").run Try.prog w = .ok (92, .int .i64 x) w := by kernel_rfl
theorem wrp_mNeg (x : Int) (w : World) : (method 230 24 (.int .i64 x) "Neg").run Try.prog w = .ok (93, .int .i64 x) w := by kernel_rfl
theorem wrp_mLike (x : Int) (w : World) : (method 230 24 (.int .i64 x) "Like").run Try.prog w = .ok (91, .int .i64 x) w := by kernel_rfl

set_option maxRecDepth 100000 in
set_option maxHeartbeats 400000 in
theorem wrp_dot (a b c d : Int) (w : World) :
    Calls Try.prog 54 #[.int .i64 a, .int .i64 b, .int .i64 c, .int .i64 d] w fun e w' => e = .returned (.int .i64 (wrapR.add (wrapR.mul a b) (wrapR.mul c d))) ∧ w = w' := by
  have q1 := wrp_mAdd
  have q2 := wrp_mMul
  have q3 := wrp_mNeg
  go_enter Try.func54, Try.ntmps54
  go_wp2_with (first | (go_at_call 20; refine (wrp_Add _ _ _).mono ?_; rintro e w' ⟨rfl, rfl⟩) | (go_at_call 92; refine (wrp_Mul _ _ _).mono ?_; rintro e w' ⟨rfl, rfl⟩) | (go_at_call 93; refine (wrp_Neg _ _).mono ?_; rintro e w' ⟨rfl, rfl⟩))
  go_ret
  exact ⟨rfl, rfl⟩

set_option maxRecDepth 100000 in
set_option maxHeartbeats 400000 in
theorem wrp_Mul4 (m n : M4) (w : World) :
    Calls Try.prog 10 #[wrpV m, wrpV n] w fun e w' => e = .returned (wrpV (M4.gmul wrapR m n)) ∧ Below w.heap.size w w' := by
  go_enter Try.func10, Try.ntmps10
  go_wp2_with (go_at_call 54; refine (wrp_dot _ _ _ _ _).mono ?_; rintro e w' ⟨rfl, rfl⟩)
  exact bodyPost_ret (by simp [results, Try.results10, go_sem]; exact ⟨rfl, rfl, rfl, rfl⟩) rfl ⟨rfl, by repeat (first | exact Below.refl _ _ | apply Below.drew | refine Below.alloc ?_ (by simp; try omega) _)⟩

set_option maxRecDepth 100000 in
set_option maxHeartbeats 400000 in
theorem wrp_Det4 (m : M4) (w : World) :
    Calls Try.prog 11 #[wrpV m] w fun e w' => e = .returned (.int .i64 (M4.gdet wrapR m)) ∧ Below w.heap.size w w' := by
  have q1 := wrp_mAdd
  have q2 := wrp_mMul
  have q3 := wrp_mNeg
  go_enter Try.func11, Try.ntmps11
  go_wp2_with (first | (go_at_call 20; refine (wrp_Add _ _ _).mono ?_; rintro e w' ⟨rfl, rfl⟩) | (go_at_call 92; refine (wrp_Mul _ _ _).mono ?_; rintro e w' ⟨rfl, rfl⟩) | (go_at_call 93; refine (wrp_Neg _ _).mono ?_; rintro e w' ⟨rfl, rfl⟩))
  go_ret
  exact ⟨rfl, by repeat (first | exact Below.refl _ _ | apply Below.drew | refine Below.alloc ?_ (by simp; try omega) _)⟩

set_option maxRecDepth 100000 in
set_option maxHeartbeats 400000 in
theorem wrp_Trace4 (m : M4) (w : World) :
    Calls Try.prog 12 #[wrpV m] w fun e w' => e = .returned (.int .i64 (M4.gtrace wrapR m)) ∧ Below w.heap.size w w' := by
  have q1 := wrp_mAdd
  have q2 := wrp_mMul
  have q3 := wrp_mNeg
  go_enter Try.func12, Try.ntmps12
  go_wp2_with (first | (go_at_call 20; refine (wrp_Add _ _ _).mono ?_; rintro e w' ⟨rfl, rfl⟩) | (go_at_call 92; refine (wrp_Mul _ _ _).mono ?_; rintro e w' ⟨rfl, rfl⟩) | (go_at_call 93; refine (wrp_Neg _ _).mono ?_; rintro e w' ⟨rfl, rfl⟩))
  go_ret
  exact ⟨rfl, by repeat (first | exact Below.refl _ _ | apply Below.drew | refine Below.alloc ?_ (by simp; try omega) _)⟩

set_option maxRecDepth 100000 in
set_option maxHeartbeats 400000 in
theorem wrp_Turned4 (m : M4) (w : World) :
    Calls Try.prog 13 #[wrpV m] w fun e w' => e = .returned (wrpV (M4.gturned wrapR m)) ∧ Below w.heap.size w w' := by
  have q1 := wrp_mAdd
  have q2 := wrp_mMul
  have q3 := wrp_mNeg
  go_enter Try.func13, Try.ntmps13
  go_wp2_with fail
  go_region_held3 (fun w' => w'.cell? ⟨w.heap.size, 0, none⟩ = some (.int .i64 m.a) ∧ w'.cell? ⟨w.heap.size, 1, none⟩ = some (.int .i64 m.b) ∧ w'.cell? ⟨w.heap.size, 2, none⟩ = some (.int .i64 m.c) ∧ w'.cell? ⟨w.heap.size, 3, none⟩ = some (.int .i64 m.d)) (go_keep)
    (first | (go_at_call 93; refine (wrp_Neg _ _).mono ?_; rintro e w' ⟨rfl, rfl⟩))
  go_wp2
  exact bodyPost_ret (by simp [results, Try.results13, go_sem]; exact ⟨rfl, rfl, rfl, rfl⟩) rfl ⟨rfl, by repeat (first | exact Below.refl _ _ | apply Below.drew | refine Below.alloc ?_ (by simp; try omega) _)⟩
end Go.Proofs.Ytalalbhhlbeghaa
