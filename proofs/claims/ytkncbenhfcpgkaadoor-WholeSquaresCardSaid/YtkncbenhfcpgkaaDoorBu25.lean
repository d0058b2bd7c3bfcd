/- Several texts in one: Z, RootLaw, BitsVal. -/
import Derived.Test.YtkncbenhfcpgkaaDoorBu14
import Derived.Test.YtkncbenhfcpgkaaDoorBuHd
import Derived.Test.YtkncbenhfcpgkaaDoorBu17
import Derived.Test.YtkncbenhfcpgkaaDoorBu10
import Derived.Test.YtkncbenhfcpgkaaDoorBu22
import Derived.Test.YtkncbenhfcpgkaaDoorBu23
import Derived.Test.YtkncbenhfcpgkaaDoorBu24
import Derived.Test.YtkncbenhfcpgkaaDoorBu04
import Derived.Test.YtkncbenhfcpgkaaDoorBu03
import Derived.Test.YtkncbenhfcpgkaaDoorBu02
import Derived.Test.YtkncbenhfcpgkaaDoorBu01
import Derived.Test.YtkncbenhfcpgkaaDoorBu08
import Derived.Test.YtkncbenhfcpgkaaDoorBu07
import Derived.Test.YtkncbenhfcpgkaaDoorBu05
import Derived.Test.YtkncbenhfcpgkaaDoorBu06
import Derived.Test.YtkncbenhfcpgkaaDoorBu16
import Derived.Test.YtkncbenhfcpgkaaDoorBu15
import Derived.Test.YtkncbenhfcpgkaaDoorBu13
import Derived.Test.YtkncbenhfcpgkaaDoorBu12
import Derived.Test.YtkncbenhfcpgkaaDoorBu09
import Derived.Test.YtkncbenhfcpgkaaDoorBu11
import Derived.Lib.Hide
set_option maxRecDepth 100000
set_option maxHeartbeats 8000000
/- The calls of package exact over numbers, told by the numbers alone. (Written by wip/exact/genz.py.) -/
namespace Go.Proofs.YtkncbenhfcpgkaaDoor
open Go.RowKit
theorem ebits (x k : Int) (A : Option Addr) (c : Nat) (w : World) (h : Raw w A c (natL x.natAbs)) (hx : lz x ≤ 200000000) (hk : k = ((bitsI (natL x.natAbs) : Nat) : Int)) :
    Calls Tryd.prog 27 #[.agg #[.bool (decide (x < 0)), .slice A (natL x.natAbs).length c]] w fun e w' => e = .returned (.int .i64 k) ∧ Below w.heap.size w w' := by
  have := exact_Bits_any (decide (x < 0)) A c _ w h (by unfold lz at hx; omega)
  rw [← hk] at this
  exact this
theorem edouble (x z k : Int) (A : Option Addr) (c : Nat) (w : World) (h : Raw w A c (natL x.natAbs)) (hx : lz x ≤ 1000000) (hx0 : x ≠ 0) (hk0 : 0 ≤ k) (hk : k ≤ 1048576) (hz : z = x * ((2 ^ k.toNat : Nat) : Int)) :
    Calls Tryd.prog 28 #[.agg #[.bool (decide (x < 0)), .slice A (natL x.natAbs).length c], .int .i64 k] w (RetInt w.heap.size w z) := by
  have hne : natL x.natAbs ≠ [] := fun e => by have := natL_eq_nil.1 e; omega
  have := exact_Double_z (decide (x < 0)) A c k.toNat (natL x.natAbs) hne (by omega) (by unfold lz at hx; omega) z (Hd (by rw [hz, ← ival_mul, ival_at])) w h
  rw [Int.toNat_of_nonneg hk0] at this
  exact this
theorem ehalved (x z k : Int) (A : Option Addr) (c : Nat) (w : World) (h : Raw w A c (natL x.natAbs)) (hx : lz x ≤ 1000000) (hk0 : 0 ≤ k) (hk : k ≤ 1048576) (hz : z = x / ((2 ^ k.toNat : Nat) : Int)) :
    Calls Tryd.prog 26 #[.agg #[.bool (decide (x < 0)), .slice A (natL x.natAbs).length c], .int .i64 k] w (RetInt w.heap.size w z) := by
  have := exact_Halved_z (decide (x < 0)) A c k.toNat (natL x.natAbs) (canon_natL _) (fun e => by have := natL_eq_nil.1 e; exact decide_eq_false (by omega)) (by omega) (by unfold lz at hx; omega) z (by rw [ival_at]; exact hz) w h
  rw [Int.toNat_of_nonneg hk0] at this
  exact this
/- The root by Newton's steps: plain Lean. -/

def IsRoot (x r : Nat) : Prop := r * r ≤ x ∧ x < (r + 1) * (r + 1)
/- How many bits a number has, told by the number. -/

theorem bits_val {n : Nat} (hn : 0 < n) : 1 ≤ bitsI (natL n) ∧ 2 ^ (bitsI (natL n) - 1) ≤ n ∧ n < 2 ^ bitsI (natL n) := by
  have hl := limbs_natL n
  have hc := canon_natL n
  have hne : natL n ≠ [] := fun e => by have := natL_eq_nil.1 e; omega
  obtain ⟨ini, t, e⟩ : ∃ ini t, natL n = ini ++ [t] := ⟨(natL n).dropLast, (natL n).getLast hne, (List.dropLast_concat_getLast hne).symm⟩
  have hv := val_natL n
  rw [e] at hl hc hv
  have ht0 : t ≠ 0 := hc t (by simp)
  have ht := (limbs_append.1 hl).2 t (by simp)
  obtain ⟨h1, h2, h3, h4⟩ := bitLen32 t ht ht0
  have hb : bitsI (natL n) = 32 * ini.length + Lib.bitLen t := by
    unfold bitsI
    rw [e, if_neg (by simp)]
    simp
  rw [val_append] at hv
  have hs : val [t] = t := by simp [val]
  rw [hs] at hv
  have hlow := val_lt (limbs_append.1 hl).1
  rw [hb]
  rw [show (4294967296 : Nat) = 2 ^ 32 by decide, ← Nat.pow_mul] at hv hlow
  generalize hp : 32 * ini.length = p at *
  generalize hl' : Lib.bitLen t = l at *
  have e1 : 2 ^ (p + l) = 2 ^ p * 2 ^ l := Nat.pow_add _ _ _
  have e2 : 2 ^ l = 2 * 2 ^ (l - 1) := by rw [← Nat.pow_succ']; congr 1; omega
  have e3 : 2 ^ (p + l - 1) = 2 ^ p * 2 ^ (l - 1) := by rw [← Nat.pow_add]; congr 1; omega
  refine ⟨by omega, ?_, ?_⟩
  · rw [e3]
    have : 2 ^ p * 2 ^ (l - 1) ≤ 2 ^ p * t := Nat.mul_le_mul_left _ (by omega)
    omega
  · rw [e1]
    have : 2 ^ p * (t + 1) ≤ 2 ^ p * 2 ^ l := Nat.mul_le_mul_left _ h4
    rw [Nat.mul_add, Nat.mul_one] at this
    omega
end Go.Proofs.YtkncbenhfcpgkaaDoor
