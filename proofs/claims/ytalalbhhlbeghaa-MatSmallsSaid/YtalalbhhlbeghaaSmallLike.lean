/- mat.Like over the ring Small, and the comparison with the document's matrix. (Written by wip/mat/genlike.py.) -/
import Derived.Test.YtalalbhhlbeghaaSmall
import Derived.Test.YtalalbhhlbeghaaRef08d
import Derived.Test.YtalalbhhlbeghaaAtS
namespace Go.Proofs.Ytalalbhhlbeghaa
open Go.RowKit
attribute [local go_sem] run_store_complex

theorem low_bounds {a : Int} (h : wrapM H8 a = a) : -128 ≤ a ∧ a ≤ 127 := by
  have h2 : (a + 128) % 256 - 128 = a := h
  clear h; omega
theorem wrap64_of_low {a : Int} (h : wrapM H8 a = a) : wrap64 a = a := by
  have h1 := low_bounds h
  clear h; unfold wrap64; omega
theorem i64_of_low {a : Int} (h : wrapM H8 a = a) : IntKind.i64.wrap a = a := by
  have h1 := low_bounds h
  exact IntWalk.i64_in _ (by omega)
theorem M4.gturned_ok {x : M4} (hx : x.okM H8) : (M4.gturned smallR x).okM H8 := by
  rw [smallR_M]; exact ⟨hx.2.2.2, wrapM_wrapM _ _, wrapM_wrapM _ _, hx.1⟩
theorem M4.gdet_ok (x : M4) : wrapM H8 (M4.gdet smallR x) = M4.gdet smallR x := by
  rw [smallR_M]; exact wrapM_wrapM _ _
theorem M4.gtrace_ok (x : M4) : wrapM H8 (M4.gtrace smallR x) = M4.gtrace smallR x := by
  rw [smallR_M]; exact wrapM_wrapM _ _
theorem M4.gmul8_ok (x y : M4) : (M4.gmul smallR x y).okM H8 := by
  rw [smallR_M]; exact M4.gmul_ok _ _ _
theorem M4.gpow8_ok {x y : M4} (hx : x.okM H8) (hy : y.okM H8) {k : Nat} (hk : k ≤ 18446744073709551615) : (M4.gpow smallR 65 x y k).okM H8 := by
  rw [smallR_M, M4.gpow_eq H8 (by unfold H8; omega) 64 x y k (by omega) hx hy]; exact M4.gmul_ok _ _ _
theorem M4.gchain8_ok {x : M4} (hx : x.okM H8) (l : List M4) : (M4.gchain smallR x l).okM H8 := by
  rw [smallR_M]; exact M4.chain_ok H8 l hx

set_option maxRecDepth 100000 in
set_option maxHeartbeats 400000 in
theorem low_low (m : M4) (w : World) :
    Calls Try.prog 38 #[mv m] w fun e w' => e = .returned (mv m.low) ∧ Below w.heap.size w w' := by
  have k1 : wrap64 (IntKind.i8.wrap m.a) = IntKind.i8.wrap m.a := wrap64_of_low m.low_ok.1
  have k2 : wrap64 (IntKind.i8.wrap m.b) = IntKind.i8.wrap m.b := wrap64_of_low m.low_ok.2.1
  have k3 : wrap64 (IntKind.i8.wrap m.c) = IntKind.i8.wrap m.c := wrap64_of_low m.low_ok.2.2.1
  have k4 : wrap64 (IntKind.i8.wrap m.d) = IntKind.i8.wrap m.d := wrap64_of_low m.low_ok.2.2.2
  go_enter Try.func38, Try.ntmps38
  go_wp2
  exact bodyPost_ret (by simp [results, Try.results38, go_sem]; exact ⟨rfl, rfl, rfl, rfl⟩) rfl ⟨rfl, by repeat (first | exact Below.refl _ _ | apply Below.drew | refine Below.alloc ?_ (by simp; try omega) _)⟩


set_option maxRecDepth 100000 in
set_option maxHeartbeats 1000000 in
theorem small_Like4 (m n : M4) (w : World) :
    Calls Try.prog 44 #[smallV m, smallV n] w fun e w' => e = .returned (.bool (matEq m n)) ∧ Below w.heap.size w w' := by
  have q4 := small_mLike
  have hm : matEq m n = (m.a == n.a && m.b == n.b && m.c == n.c && m.d == n.d) := rfl
  have A1 := fun V => small_Like m.a n.a V
  have A2 := fun V => small_Like m.b n.b V
  have A3 := fun V => small_Like m.c n.c V
  have A4 := fun V => small_Like m.d n.d V
  generalize (m.a == n.a) = ba at hm A1
  generalize (m.b == n.b) = bb at hm A2
  generalize (m.c == n.c) = bc at hm A3
  generalize (m.d == n.d) = bd at hm A4
  have HM := Lib.hid hm
  have H1 := Lib.hid A1
  have H2 := Lib.hid A2
  have H3 := Lib.hid A3
  have H4 := Lib.hid A4
  clear hm A1 A2 A3 A4
  go_enter Try.func44, Try.ntmps44
  cases ba <;> cases bb <;> cases bc <;> cases bd
  all_goals
    go_wp2_with (first
      | (go_at_call 95; ((with_reducible refine (H1.out _).mono ?_); rintro e w' ⟨rfl, rfl⟩))
      | (go_at_call 95; ((with_reducible refine (H2.out _).mono ?_); rintro e w' ⟨rfl, rfl⟩))
      | (go_at_call 95; ((with_reducible refine (H3.out _).mono ?_); rintro e w' ⟨rfl, rfl⟩))
      | (go_at_call 95; ((with_reducible refine (H4.out _).mono ?_); rintro e w' ⟨rfl, rfl⟩)))
    go_ret
    exact ⟨by rw [HM.out]; rfl, by repeat (first | exact Below.refl _ _ | apply Below.drew | refine Below.alloc ?_ (by simp; try omega) _)⟩

set_option maxRecDepth 100000 in
set_option maxHeartbeats 1000000 in
theorem smalled_true (m : M4) (w : World) (hm : m.okM H8) :
    Calls Try.prog 39 #[smallV m, matR 1 m] w fun e w' => e = .returned (.bool true) ∧ Below w.heap.size w w' := by
  have h1 : wrap64 m.a = m.a := wrap64_of_low hm.1
  have h2 : wrap64 m.b = m.b := wrap64_of_low hm.2.1
  have h3 : wrap64 m.c = m.c := wrap64_of_low hm.2.2.1
  have h4 : wrap64 m.d = m.d := wrap64_of_low hm.2.2.2
  clear hm
  go_enter Try.func39, Try.ntmps39
  go_wp2
  go_ret
  exact ⟨rfl, by repeat (first | exact Below.refl _ _ | apply Below.drew | refine Below.alloc ?_ (by simp; try omega) _)⟩
end Go.Proofs.Ytalalbhhlbeghaa
