/- Several texts in one: BitsVal, BitsLz, RCommon, Common02. -/
import Derived.Test.YtipmkkobdbgphaaGreatDoorPb03
import Derived.Test.YtipmkkobdbgphaaGreatDoorPb09
import Derived.Test.YtipmkkobdbgphaaGreatDoorPb13
import Derived.Test.YtipmkkobdbgphaaGreatDoorPb14
import Derived.Test.YtipmkkobdbgphaaGreatDoorPb16
set_option maxRecDepth 100000
set_option maxHeartbeats 8000000
/- How many bits a number has, told by the number. -/
namespace Go.Proofs.YtipmkkobdbgphaaGreatDoor

theorem bits_val {n : Nat} (hn : 0 < n) : 1 ≤ bitsI (natL n) ∧ 2 ^ (bitsI (natL n) - 1) ≤ n ∧ n < 2 ^ bitsI (natL n) := by
  have hl := limbs_natL n
  have hc := canon_natL n
  have hne : natL n ≠ [] := fun e => by have := natL_eq_nil.1 e; omega
  obtain ⟨ini, t, e⟩ : ∃ ini t, natL n = ini ++ [t] := ⟨(natL n).dropLast, (natL n).getLast hne, (List.dropLast_concat_getLast hne).symm⟩
  have hv := val_natL n
  rw [e] at hl hc hv
  have ht0 : t ≠ 0 := hc t (by simp)
  have ht := (limbs_append.1 hl).2 t (by simp)
  obtain ⟨h1, h2, h3, h4⟩ := bitLen32 t ht ht0
  have hb : bitsI (natL n) = 32 * ini.length + Lib.bitLen t := by
    unfold bitsI
    rw [e, if_neg (by simp)]
    simp
  rw [val_append] at hv
  have hs : val [t] = t := by simp [val]
  rw [hs] at hv
  have hlow := val_lt (limbs_append.1 hl).1
  rw [hb]
  rw [show (4294967296 : Nat) = 2 ^ 32 by decide, ← Nat.pow_mul] at hv hlow
  generalize hp : 32 * ini.length = p at *
  generalize hl' : Lib.bitLen t = l at *
  have e1 : 2 ^ (p + l) = 2 ^ p * 2 ^ l := Nat.pow_add _ _ _
  have e2 : 2 ^ l = 2 * 2 ^ (l - 1) := by rw [← Nat.pow_succ']; congr 1; omega
  have e3 : 2 ^ (p + l - 1) = 2 ^ p * 2 ^ (l - 1) := by rw [← Nat.pow_add]; congr 1; omega
  refine ⟨by omega, ?_, ?_⟩
  · rw [e3]
    have : 2 ^ p * 2 ^ (l - 1) ≤ 2 ^ p * t := Nat.mul_le_mul_left _ (by omega)
    omega
  · rw [e1]
    have : 2 ^ p * (t + 1) ≤ 2 ^ p * 2 ^ l := Nat.mul_le_mul_left _ h4
    rw [Nat.mul_add, Nat.mul_one] at this
    omega
/- How many bits, how many limbs. -/

def bz (x : Int) : Nat := bitsI (natL x.natAbs)
theorem bits_two {x : Int} {L : Nat} (hx : lz x ≤ L) (h0 : x ≠ 0) : 1 ≤ bitsI (natL x.natAbs) ∧ bitsI (natL x.natAbs) ≤ 32 * L := by
  obtain ⟨h1, h2, h3⟩ := bits_val (show 0 < x.natAbs by omega)
  have h4 : x.natAbs < 4294967296 ^ L := lz_le.1 hx
  rw [show (4294967296 : Nat) = 2 ^ 32 by decide, ← Nat.pow_mul] at h4
  have := (Nat.pow_lt_pow_iff_right (by omega)).1 (Nat.lt_of_le_of_lt h2 h4)
  exact ⟨h1, by omega⟩
/- Common of the references, told by the numbers alone. -/
open Go.RowKit

/- common of the references of chapter 02. (Written by wip/frac/gencommon02.py.) -/

end Go.Proofs.YtipmkkobdbgphaaGreatDoor
