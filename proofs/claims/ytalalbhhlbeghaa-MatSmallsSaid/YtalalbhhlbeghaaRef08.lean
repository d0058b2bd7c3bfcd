/- Contracts of the document's matrices over things of whole numbers. -/
import Derived.Test.YtalalbhhlbeghaaMonoid
import Derived.Test.YtalalbhhlbeghaaTuple
import Derived.Test.YtalalbhhlbeghaaProg
import Derived.WalkKit
import Derived.WalkSpells
import Derived.WalkLawsBesides
import Derived.Deep.RegionHeld3
import Derived.Lib.Hide
namespace Go.Proofs.Ytalalbhhlbeghaa
open Go.RowKit

theorem run_store_complex (P : Program) (w : World) (a : Addr) (m : Mode) (k : FloatKind) (x y : Nat) : (store a (.complex k x y) m).run P w = stored P w a (.complex k x y) m := run_store P w a _ m rfl
attribute [local go_sem] run_store_complex
/-- A thing of kind k; a matrix of such. -/
abbrev thV (k n : Int) : Value := .agg #[.int .i64 k, .int .i64 n, .complex .f64 0 0]
abbrev matC (k : Int) (m : M4) : Array Value := #[.int .i64 k, .int .i64 m.a, .complex .f64 0 0, .int .i64 k, .int .i64 m.b, .complex .f64 0 0, .int .i64 k, .int .i64 m.c, .complex .f64 0 0, .int .i64 k, .int .i64 m.d, .complex .f64 0 0]
abbrev matR (k : Int) (m : M4) : Value := .agg (matC k m)

set_option maxRecDepth 100000 in
set_option maxHeartbeats 400000 in
theorem thing_any (k n : Int) (w : World) :
    Calls Try.prog 60 #[.int .i64 k, .int .i64 n] w fun e w' => e = .returned (thV k n) ∧ Below w.heap.size w w' := by
  go_enter Try.func60, Try.ntmps60
  go_wp2
  exact bodyPost_ret (by simp [results, Try.results60, go_sem]) rfl ⟨rfl, by repeat (first | exact Below.refl _ _ | apply Below.drew | refine Below.alloc ?_ (by simp; try omega) _)⟩

/-- The ring that the things of a kind are. -/
structure RefRing (k : Int) (R : Rng) : Prop where
  add : ∀ a b w, Calls Try.prog 61 #[thV k a, thV k b] w fun e w' => e = .returned (thV k (R.add a b)) ∧ Below w.heap.size w w'
  mul : ∀ a b w, Calls Try.prog 62 #[thV k a, thV k b] w fun e w' => e = .returned (thV k (R.mul a b)) ∧ Below w.heap.size w w'
  neg : ∀ a w, Calls Try.prog 63 #[thV k a] w fun e w' => e = .returned (thV k (R.neg a)) ∧ Below w.heap.size w w'
  like : ∀ a b w, Calls Try.prog 64 #[thV k a, thV k b] w fun e w' => e = .returned (.bool (a == b)) ∧ Below w.heap.size w w'

theorem wrap8_64 (n : Int) : wrap64 (IntKind.i8.wrap (wrap64 n)) = IntKind.i8.wrap n := by
  rw [wrap8_eq, wrap8_eq]; unfold wrap64; omega
set_option maxRecDepth 100000 in
set_option maxHeartbeats 400000 in
theorem ring0_add (a b : Int) (w : World) : Calls Try.prog 61 #[thV 0 a, thV 0 b] w fun e w' => e = .returned (thV 0 (wrap64 (a + b))) ∧ Below w.heap.size w w' := by
  go_enter Try.func61, Try.ntmps61
  go_wp2
  exact bodyPost_ret (by simp [results, Try.results61, go_sem]) rfl ⟨rfl, by repeat (first | exact Below.refl _ _ | apply Below.drew | refine Below.alloc ?_ (by simp; try omega) _)⟩
set_option maxRecDepth 100000 in
set_option maxHeartbeats 400000 in
theorem ring0_mul (a b : Int) (w : World) : Calls Try.prog 62 #[thV 0 a, thV 0 b] w fun e w' => e = .returned (thV 0 (wrap64 (a * b))) ∧ Below w.heap.size w w' := by
  go_enter Try.func62, Try.ntmps62
  go_wp2
  exact bodyPost_ret (by simp [results, Try.results62, go_sem]) rfl ⟨rfl, by repeat (first | exact Below.refl _ _ | apply Below.drew | refine Below.alloc ?_ (by simp; try omega) _)⟩
set_option maxRecDepth 100000 in
set_option maxHeartbeats 400000 in
theorem ring0_neg (a : Int) (w : World) : Calls Try.prog 63 #[thV 0 a] w fun e w' => e = .returned (thV 0 (wrap64 (-a))) ∧ Below w.heap.size w w' := by
  go_enter Try.func63, Try.ntmps63
  go_wp2
  exact bodyPost_ret (by simp [results, Try.results63, go_sem]) rfl ⟨rfl, by repeat (first | exact Below.refl _ _ | apply Below.drew | refine Below.alloc ?_ (by simp; try omega) _)⟩
set_option maxRecDepth 100000 in
set_option maxHeartbeats 400000 in
theorem ring1_add (a b : Int) (w : World) : Calls Try.prog 61 #[thV 1 a, thV 1 b] w fun e w' => e = .returned (thV 1 (wrap64 (IntKind.i8.wrap (wrap64 (a + b))))) ∧ Below w.heap.size w w' := by
  go_enter Try.func61, Try.ntmps61
  go_wp2
  exact bodyPost_ret (by simp [results, Try.results61, go_sem]) rfl ⟨rfl, by repeat (first | exact Below.refl _ _ | apply Below.drew | refine Below.alloc ?_ (by simp; try omega) _)⟩
set_option maxRecDepth 100000 in
set_option maxHeartbeats 400000 in
theorem ring1_mul (a b : Int) (w : World) : Calls Try.prog 62 #[thV 1 a, thV 1 b] w fun e w' => e = .returned (thV 1 (wrap64 (IntKind.i8.wrap (wrap64 (a * b))))) ∧ Below w.heap.size w w' := by
  go_enter Try.func62, Try.ntmps62
  go_wp2
  exact bodyPost_ret (by simp [results, Try.results62, go_sem]) rfl ⟨rfl, by repeat (first | exact Below.refl _ _ | apply Below.drew | refine Below.alloc ?_ (by simp; try omega) _)⟩
set_option maxRecDepth 100000 in
set_option maxHeartbeats 400000 in
theorem ring1_neg (a : Int) (w : World) : Calls Try.prog 63 #[thV 1 a] w fun e w' => e = .returned (thV 1 (wrap64 (IntKind.i8.wrap (wrap64 (-a))))) ∧ Below w.heap.size w w' := by
  go_enter Try.func63, Try.ntmps63
  go_wp2
  exact bodyPost_ret (by simp [results, Try.results63, go_sem]) rfl ⟨rfl, by repeat (first | exact Below.refl _ _ | apply Below.drew | refine Below.alloc ?_ (by simp; try omega) _)⟩
set_option maxRecDepth 100000 in
set_option maxHeartbeats 400000 in
theorem ring0_like (a b : Int) (w : World) : Calls Try.prog 64 #[thV 0 a, thV 0 b] w fun e w' => e = .returned (.bool (a == b)) ∧ Below w.heap.size w w' := by
  go_enter Try.func64, Try.ntmps64
  go_wp2
  go_ret
  exact ⟨rfl, by repeat (first | exact Below.refl _ _ | apply Below.drew | refine Below.alloc ?_ (by simp; try omega) _)⟩
set_option maxRecDepth 100000 in
set_option maxHeartbeats 400000 in
theorem ring1_like (a b : Int) (w : World) : Calls Try.prog 64 #[thV 1 a, thV 1 b] w fun e w' => e = .returned (.bool (a == b)) ∧ Below w.heap.size w w' := by
  go_enter Try.func64, Try.ntmps64
  go_wp2
  go_ret
  exact ⟨rfl, by repeat (first | exact Below.refl _ _ | apply Below.drew | refine Below.alloc ?_ (by simp; try omega) _)⟩
set_option maxRecDepth 100000 in
set_option maxHeartbeats 400000 in
theorem ring3_like (a b : Int) (w : World) : Calls Try.prog 64 #[thV 3 a, thV 3 b] w fun e w' => e = .returned (.bool (a == b)) ∧ Below w.heap.size w w' := by
  go_enter Try.func64, Try.ntmps64
  go_wp2
  go_ret
  exact ⟨rfl, by repeat (first | exact Below.refl _ _ | apply Below.drew | refine Below.alloc ?_ (by simp; try omega) _)⟩
/-- What is mixed. -/
def mix1 (op a : Int) : Int := IntKind.u64.wrap (bits .xor .u64 (IntKind.u64.wrap a) (IntKind.u64.wrap (op * 11400714819323198485)) * 13787848793156543929)
def mix2 (x : Int) : Int := bits .xor .u64 x (x / 536870912)
def mix3 (x b : Int) : Int := IntKind.u64.wrap (IntKind.u64.wrap (x + IntKind.u64.wrap b) * 10723151780598845931)
def mix4 (x : Int) : Int := wrap64 (bits .xor .u64 x (x / 4294967296))
def mixed0 (op a b : Int) : Int := mix4 (mix3 (mix2 (mix1 op a)) b)
theorem mix_all (op a b : Int) (w : World) : Calls Try.prog 72 #[.int .u64 op, .int .i64 a, .int .i64 b] w fun e w' => e = .returned (.int .i64 (mixed0 op a b)) ∧ w = w' := by
  go_enter Try.func72, Try.ntmps72
  go_wp2
  go_ret
  exact ⟨by simp only [mixed0, mix4, mix3, mix2, mix1]; rfl, rfl⟩
/-- The same number, closed to the kernel's reckoning. -/
theorem mix_some : ∃ F : Int → Int → Int → Int, ∀ (op a b : Int) (w : World), Calls Try.prog 72 #[.int .u64 op, .int .i64 a, .int .i64 b] w fun e w' => e = .returned (.int .i64 (F op a b)) ∧ w = w' := ⟨mixed0, mix_all⟩
noncomputable def mixv : Int → Int → Int → Int := Classical.choose mix_some
theorem mix_any (op a b : Int) (w : World) : Calls Try.prog 72 #[.int .u64 op, .int .i64 a, .int .i64 b] w fun e w' => e = .returned (.int .i64 (mixv op a b)) ∧ w = w' := Classical.choose_spec mix_some op a b w
set_option maxRecDepth 100000 in
theorem mixed_any (op a b : Int) (w : World) : Calls Try.prog 102 #[.int .u64 op, .int .i64 a, .int .i64 b] w fun e w' => e = .returned (.int .i64 (mixv op a b)) ∧ w = w' := by
  go_enter Try.func102, Try.ntmps102
  go_wp2_with (go_at_call 72; refine (mix_any _ _ _ _).mono ?_; rintro e w' ⟨rfl, rfl⟩)
  go_ret
  exact ⟨rfl, rfl⟩
noncomputable def toldR : Rng := ⟨fun a b => mixv 1 a b, fun a b => mixv 2 a b, fun a => mixv 3 a 0⟩
theorem ring0 : RefRing 0 wrapR := ⟨ring0_add, ring0_mul, ring0_neg, ring0_like⟩
theorem ring1 : RefRing 1 smallR :=
  ⟨fun a b w => by have h := ring1_add a b w; rw [wrap8_64] at h; exact h, fun a b w => by have h := ring1_mul a b w; rw [wrap8_64] at h; exact h, fun a w => by have h := ring1_neg a w; rw [wrap8_64] at h; exact h, ring1_like⟩
end Go.Proofs.Ytalalbhhlbeghaa
