/- mat.Like over the ring Told, and the comparison with the document's matrix. (Written by wip/mat/genlike.py.) -/
import Derived.Test.YtalalbhhlbeghaaTold
import Derived.Test.YtalalbhhlbeghaaRef08d
namespace Go.Proofs.Ytalalbhhlbeghaa
open Go.RowKit
attribute [local go_sem] run_store_complex

set_option maxRecDepth 100000 in
set_option maxHeartbeats 1000000 in
theorem told_Like4 (m n : M4) (w : World) :
    Calls Try.prog 53 #[toldV m, toldV n] w fun e w' => e = .returned (.bool (matEq m n)) ∧ Below w.heap.size w w' := by
  have q4 := told_mLike
  have hm : matEq m n = (m.a == n.a && m.b == n.b && m.c == n.c && m.d == n.d) := rfl
  have A1 := fun V => told_Like m.a n.a V
  have A2 := fun V => told_Like m.b n.b V
  have A3 := fun V => told_Like m.c n.c V
  have A4 := fun V => told_Like m.d n.d V
  generalize (m.a == n.a) = ba at hm A1
  generalize (m.b == n.b) = bb at hm A2
  generalize (m.c == n.c) = bc at hm A3
  generalize (m.d == n.d) = bd at hm A4
  have HM := Lib.hid hm
  have H1 := Lib.hid A1
  have H2 := Lib.hid A2
  have H3 := Lib.hid A3
  have H4 := Lib.hid A4
  clear hm A1 A2 A3 A4
  go_enter Try.func53, Try.ntmps53
  cases ba <;> cases bb <;> cases bc <;> cases bd
  all_goals
    go_wp2_with (first
      | (go_at_call 99; ((with_reducible refine (H1.out _).mono ?_); rintro e w' ⟨rfl, rfl⟩))
      | (go_at_call 99; ((with_reducible refine (H2.out _).mono ?_); rintro e w' ⟨rfl, rfl⟩))
      | (go_at_call 99; ((with_reducible refine (H3.out _).mono ?_); rintro e w' ⟨rfl, rfl⟩))
      | (go_at_call 99; ((with_reducible refine (H4.out _).mono ?_); rintro e w' ⟨rfl, rfl⟩)))
    go_ret
    exact ⟨by rw [HM.out]; rfl, by repeat (first | exact Below.refl _ _ | apply Below.drew | refine Below.alloc ?_ (by simp; try omega) _)⟩

set_option maxRecDepth 100000 in
set_option maxHeartbeats 1000000 in
theorem tolds_true (m : M4) (w : World) :
    Calls Try.prog 46 #[toldV m, matR 3 m] w fun e w' => e = .returned (.bool true) ∧ Below w.heap.size w w' := by
  go_enter Try.func46, Try.ntmps46
  go_wp2
  go_ret
  exact ⟨rfl, by repeat (first | exact Below.refl _ _ | apply Below.drew | refine Below.alloc ?_ (by simp; try omega) _)⟩
end Go.Proofs.Ytalalbhhlbeghaa
