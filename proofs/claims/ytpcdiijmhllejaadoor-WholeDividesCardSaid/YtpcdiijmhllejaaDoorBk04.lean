/- Several texts in one: Bits. -/
import Derived.Lib.BitFns
import Derived.WalkSmall
/- How many bits a number has: plain. -/
namespace Go.Proofs.YtpcdiijmhllejaaDoor

theorem bla_le : ∀ f x : Nat, Lib.bitLenAux f x ≤ f
  | 0, _ => Nat.le_refl _
  | f + 1, x => by
    simp only [Lib.bitLenAux]
    split
    · omega
    · have := bla_le f (x / 2); omega
theorem bla_lt : ∀ f x : Nat, x < 2 ^ f → x < 2 ^ Lib.bitLenAux f x
  | 0, x, h => by simpa [Lib.bitLenAux] using h
  | f + 1, x, h => by
    simp only [Lib.bitLenAux]
    split
    · omega
    · have := bla_lt f (x / 2) (by rw [Nat.pow_succ] at h; omega)
      rw [Nat.add_comm, Nat.pow_succ]; omega
theorem bla_ge : ∀ f x k : Nat, k < Lib.bitLenAux f x → 2 ^ k ≤ x
  | 0, x, k, h => by simp [Lib.bitLenAux] at h
  | f + 1, x, k, h => by
    simp only [Lib.bitLenAux] at h
    split at h
    · omega
    · cases k with
      | zero => simp; omega
      | succ k =>
        have := bla_ge f (x / 2) k (by omega)
        rw [Nat.pow_succ]; omega
theorem bitLen_le64 (n : Nat) : Lib.bitLen n ≤ 64 := bla_le 64 n
theorem bitLen_end (n : Nat) (h : n ≤ 18446744073709551615) : n / 2 ^ Lib.bitLen n = 0 :=
  Nat.div_eq_of_lt (bla_lt 64 n (by omega))
theorem bitLen_more (n k : Nat) (h : k < Lib.bitLen n) : n / 2 ^ k ≠ 0 := by
  have h1 := bla_ge 64 n k h
  have h2 := Nat.two_pow_pos k
  have := Nat.div_le_div_right (c := 2 ^ k) h1
  rw [Nat.div_self h2] at this
  omega
theorem bit_val (n k : Nat) (hn : n ≤ 18446744073709551615) : bits .and .u64 ((n : Int) / 2 ^ k) 1 = ((n / 2 ^ k % 2 : Nat) : Int) := by
  have h : ((n : Int) / 2 ^ k) = ((n / 2 ^ k : Nat) : Int) := by simp
  have h2 : n / 2 ^ k ≤ n := Nat.div_le_self _ _
  rw [h]
  generalize n / 2 ^ k = q at h2
  rw [and_one_u64 _ (by omega) (by omega)]
  omega
theorem bit_one (n k : Nat) (hn : n ≤ 18446744073709551615) (h : n / 2 ^ k % 2 = 1) : (bits .and .u64 ((n : Int) / 2 ^ k) 1 == 1) = true := by
  rw [bit_val n k hn, h]; rfl
theorem bit_nought (n k : Nat) (hn : n ≤ 18446744073709551615) (h : ¬ n / 2 ^ k % 2 = 1) : (bits .and .u64 ((n : Int) / 2 ^ k) 1 == 1) = false := by
  rw [bit_val n k hn, show n / 2 ^ k % 2 = 0 by omega]; rfl
theorem bit_one0 (n : Nat) (hn : n ≤ 18446744073709551615) (h : n % 2 = 1) : (bits .and .u64 (n : Int) 1 == 1) = true := by
  have := bit_one n 0 hn (by simpa using h)
  simpa using this
theorem bit_nought0 (n : Nat) (hn : n ≤ 18446744073709551615) (h : ¬ n % 2 = 1) : (bits .and .u64 (n : Int) 1 == 1) = false := by
  have := bit_nought n 0 hn (by simpa using h)
  simpa using this
end Go.Proofs.YtpcdiijmhllejaaDoor
