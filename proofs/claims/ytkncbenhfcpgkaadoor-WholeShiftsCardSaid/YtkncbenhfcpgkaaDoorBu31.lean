/- Several texts in one: RootExq2, Tupsq2, OrderAt. -/
import Derived.Test.YtkncbenhfcpgkaaDoorBu27
import Derived.Test.YtkncbenhfcpgkaaDoorBu26
import Derived.Test.YtkncbenhfcpgkaaDoorBu25
import Derived.Test.YtkncbenhfcpgkaaDoorBu19
import Derived.Test.YtkncbenhfcpgkaaDoorBu21
import Derived.Test.YtkncbenhfcpgkaaDoorBu30
import Derived.Test.YtkncbenhfcpgkaaDoorBu22
import Derived.Test.YtkncbenhfcpgkaaDoorBu17
import Derived.Test.YtkncbenhfcpgkaaDoorBu18
import Derived.Test.YtkncbenhfcpgkaaDoorBu29
import Derived.Test.YtkncbenhfcpgkaaDoorBu09
import Derived.Test.YtkncbenhfcpgkaaDoorBu13
import Derived.Test.YtkncbenhfcpgkaaDoorBu04
import Derived.Test.YtkncbenhfcpgkaaDoorBu03
import Derived.Test.YtkncbenhfcpgkaaDoorBu02
import Derived.Test.YtkncbenhfcpgkaaDoorBu01
import Derived.Test.YtkncbenhfcpgkaaDoorBu11
import Derived.Test.YtkncbenhfcpgkaaDoorBu12
import Derived.Test.YtkncbenhfcpgkaaDoorBu06
import Derived.Test.YtkncbenhfcpgkaaDoorBu05
import Derived.Test.YtkncbenhfcpgkaaDoorBu10
import Derived.Test.YtkncbenhfcpgkaaDoorBu08
import Derived.Test.YtkncbenhfcpgkaaDoorBu16
import Derived.Test.YtkncbenhfcpgkaaDoorBu14
import Derived.Test.YtkncbenhfcpgkaaDoorBu15
import Derived.Test.YtkncbenhfcpgkaaDoorBu07
import Derived.Test.YtkncbenhfcpgkaaDoorBu23
import Derived.Test.YtkncbenhfcpgkaaDoorBu24
import Derived.Test.YtkncbenhfcpgkaaDoorBu20
set_option maxRecDepth 100000
set_option maxHeartbeats 8000000
/- There is a root. Plain. -/
namespace Go.Proofs.YtkncbenhfcpgkaaDoor

theorem ediv_abs (a : Int) (b : Nat) : (a / (b : Int)).natAbs ≤ a.natAbs := by
  rcases Nat.eq_zero_or_pos b with h0 | h0
  · subst h0; simp
  · rcases (by omega : 0 ≤ a ∨ a < 0) with h | h
    · obtain ⟨n, rfl⟩ := Int.eq_ofNat_of_zero_le h
      rw [← Int.natCast_ediv, Int.natAbs_natCast, Int.natAbs_natCast]
      exact Nat.div_le_self _ _
    · have h1 : a ≤ a / (b : Int) := by
        have h2 : (1 : Int) ≤ b := by omega
        have h3 := (Int.le_ediv_iff_mul_le (a := a) (b := a) (c := (b : Int)) (by omega)).2 (by
          obtain ⟨m, hm⟩ : ∃ m : Nat, a = -(m : Int) := ⟨a.natAbs, by omega⟩
          have h4 : m * 1 ≤ m * b := Nat.mul_le_mul_left m (by omega)
          rw [hm, Int.neg_mul]
          have h5 : ((m * b : Nat) : Int) = (m : Int) * (b : Int) := by simp
          omega)
        exact h3
      have h4 : a / (b : Int) < 0 := Int.ediv_neg_of_neg_of_pos h (by omega)
      omega
/- Numbers handed back with an error, in regions that draw their order; refusals told by a number's letter. -/
open Go.RowKit

theorem sub_o (x y z : Int) (A B : Option Addr) (c d : Nat) (hx : Fit x) (hy : Fit y) (w : World) (h : Raw w A c (natL x.natAbs)) (g : Raw w B d (natL y.natAbs)) (hz : z = x - y) (fz : Fit z) : Calls Tryd.prog 16 #[.agg #[.bool (decide (x < 0)), .slice A (natL x.natAbs).length c], .agg #[.bool (decide (y < 0)), .slice B (natL y.natAbs).length d]] w (RetInt2 w.heap.size w z 0) := by
  have := whole_Sub (decide (x < 0)) (decide (y < 0)) A B c d _ _ w h g
  rw [hx.ok, hy.ok, ival_at, ival_at, ← hz, toldV_fits fz, toldE_fits fz] at this
  exact this
theorem quorem_o (x y q r : Int) (A B : Option Addr) (c d : Nat) (hx : Fit x) (hy : Fit y) (w : World) (h : Raw w A c (natL x.natAbs)) (g : Raw w B d (natL y.natAbs)) (hy0 : y ≠ 0) (hq : q = x.tdiv y) (hr : r = x.tmod y) : Calls Tryd.prog 15 #[.agg #[.bool (decide (x < 0)), .slice A (natL x.natAbs).length c], .agg #[.bool (decide (y < 0)), .slice B (natL y.natAbs).length d]] w (RetTwo3 w.heap.size w q r 0) := by
  have := whole_QuoRem (decide (x < 0)) (decide (y < 0)) A B c d _ _ w h g
  unfold quoV remV quoE at this
  have h0 : ¬ (natL y.natAbs).length = 0 := fun e => by
    have := natL_eq_nil.1 (List.eq_nil_of_length_eq_zero e)
    omega
  rw [hx.ok, hy.ok, Bool.and_self, if_pos rfl, if_pos rfl, if_pos rfl, if_neg h0, if_neg h0, if_neg h0, ival_at, ival_at, ← hq, ← hr] at this
  exact this
theorem may5 (a b x y z : Int) (A0 A1 A2 A3 A4 : Option Addr) (c0 c1 c2 c3 c4 : Nat) (V : World) (h0 : Raw V A0 c0 (natL a.natAbs)) (h1 : Raw V A1 c1 (natL b.natAbs)) (h2 : Raw V A2 c2 (natL x.natAbs)) (h3 : Raw V A3 c3 (natL y.natAbs)) (h4 : Raw V A4 c4 (natL z.natAbs)) (f0 : Fit a) (f1 : Fit b) (f2 : Fit x) (f3 : Fit y) (f4 : Fit z) (t : TypeId) :
    Calls Tryd.prog 6 #[.slice (some ⟨V.heap.size, 0, none⟩) 5 5] (V.alloc (.cells #[.bool (decide (a < 0)), .slice A0 (natL a.natAbs).length c0, .bool (decide (b < 0)), .slice A1 (natL b.natAbs).length c1, .bool (decide (x < 0)), .slice A2 (natL x.natAbs).length c2, .bool (decide (y < 0)), .slice A3 (natL y.natAbs).length c3, .bool (decide (z < 0)), .slice A4 (natL z.natAbs).length c4] t)) fun e w' => e = .returned (.bool true) ∧ Below V.heap.size V w' :=
  may_list [(decide (a < 0), A0, c0, natL a.natAbs), (decide (b < 0), A1, c1, natL b.natAbs), (decide (x < 0), A2, c2, natL x.natAbs), (decide (y < 0), A3, c3, natL y.natAbs), (decide (z < 0), A4, c4, natL z.natAbs)] (by simp) V (by intro m hm; simp at hm; rcases hm with rfl | rfl | rfl | rfl | rfl <;> assumption) t true (by simp [okNum_fit f0, okNum_fit f1, okNum_fit f2, okNum_fit f3, okNum_fit f4])
theorem shift_o (x n z k : Int) (A : Option Addr) (c : Nat) (hx : Fit x) (h1 : -9223372036854775808 ≤ n) (h2 : n ≤ 9223372036854775807) (w : World) (h : Raw w A c (natL x.natAbs)) (hz : z = shiftV x n) (hk : k = shiftE x n) :
    Calls Tryd.prog 13 #[.agg #[.bool (decide (x < 0)), .slice A (natL x.natAbs).length c], .int .i64 n] w (RetN2 w z k) := by
  rw [hz, hk]
  exact (whole_Shift_z x n A c hx h1 h2 w h).mono fun _ _ q => q.n2
theorem shift_own (x n z k : Int) (A : Option Addr) (c : Nat) (hx : Fit x) (h1 : -9223372036854775808 ≤ n) (h2 : n ≤ 9223372036854775807) (w : World) (h : Raw w A c (natL x.natAbs)) (hz : z = shiftV x n) (hk : k = shiftE x n) :
    Calls Tryd.prog 13 #[.agg #[.bool (decide (x < 0)), .slice A (natL x.natAbs).length c], .int .i64 n] w (RetInt2 w.heap.size w z k) := by
  rw [hz, hk]
  exact whole_Shift_z x n A c hx h1 h2 w h
theorem shift_up {x k : Int} (h0 : 0 ≤ k) (h : x = 0 ∨ (bz x : Int) + k ≤ 65536) : x * ((2 ^ k.toNat : Nat) : Int) = shiftV x k ∧ 0 = shiftE x k := by
  unfold shiftV shiftE
  by_cases hx : x = 0
  · rw [if_pos hx, if_neg (by simp [hx]), hx, Int.zero_mul]; exact ⟨rfl, rfl⟩
  · rw [if_neg hx, if_neg (by omega), if_neg (by omega), if_neg (by omega)]
    exact ⟨rfl, rfl⟩
theorem shift_down {x j : Int} (hx : Fit x) (h0 : 0 ≤ j) (hj : j ≤ 65536) : x / ((2 ^ j.toNat : Nat) : Int) = shiftV x (-j) ∧ 0 = shiftE x (-j) := by
  unfold shiftV shiftE
  by_cases hx0 : x = 0
  · rw [if_pos hx0, if_neg (by simp [hx0]), hx0, Int.zero_ediv]; exact ⟨rfl, rfl⟩
  · have hb := bz_le hx
    rw [if_neg hx0]
    rcases (by omega : j = 0 ∨ 0 < j) with h1 | h1
    · subst h1
      rw [if_neg (by omega), if_neg (by omega), if_neg (by omega)]
      simp
    · rw [if_pos (by omega), if_neg (by omega), show min (- -j) 65536 = j by omega]
      exact ⟨rfl, rfl⟩
theorem ediv_fit {x : Int} (hx : Fit x) (n : Nat) : Fit (x / (n : Int)) := hx.mono (ediv_abs x n)
/- WholeOrder: the walk. (Written by wip/whole/genorder.py.) -/

theorem bits_z (x : Int) (A : Option Addr) (c : Nat) (hx : Fit x) (w : World) (h : Raw w A c (natL x.natAbs)) (k : Int) (hk : k = (bitsI (natL x.natAbs) : Int)) :
    Calls Tryd.prog 14 #[.agg #[.bool (decide (x < 0)), .slice A (natL x.natAbs).length c]] w fun e w' => e = .returned (.int .i64 k) ∧ Below w.heap.size w w' := by
  have := whole_Bits_any (decide (x < 0)) A c _ w h
  rw [hx.ok, if_pos rfl, ← hk] at this
  exact this
end Go.Proofs.YtkncbenhfcpgkaaDoor
