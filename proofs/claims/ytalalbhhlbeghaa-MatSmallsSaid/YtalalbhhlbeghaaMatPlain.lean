/- The plain law of matrices of two rows over numbers of 64 bits that wrap round: no program in sight. -/
import Derived.Test.YtalalbhhlbeghaaRows
import Derived.WalkKit
namespace Go.Proofs.Ytalalbhhlbeghaa
open Go.RowKit

/-- Four numbers. -/
structure M4 where
  a : Int
  b : Int
  c : Int
  d : Int

namespace M4
/-- m behind n, over 64 bits. -/
def mul (m n : M4) : M4 :=
  ⟨wrap64 (wrap64 (m.a * n.a) + wrap64 (m.b * n.c)), wrap64 (wrap64 (m.a * n.b) + wrap64 (m.b * n.d)),
   wrap64 (wrap64 (m.c * n.a) + wrap64 (m.d * n.c)), wrap64 (wrap64 (m.c * n.b) + wrap64 (m.d * n.d))⟩
def det (m : M4) : Int := wrap64 (wrap64 (m.a * m.d) + wrap64 (-(wrap64 (m.b * m.c))))
def trace (m : M4) : Int := wrap64 (m.a + m.d)
def turned (m : M4) : M4 := ⟨m.d, wrap64 (-m.b), wrap64 (-m.c), m.a⟩
/-- In range. -/
def ok (m : M4) : Prop := wrap64 m.a = m.a ∧ wrap64 m.b = m.b ∧ wrap64 m.c = m.c ∧ wrap64 m.d = m.d

theorem w_toInt (x : Int) : (BitVec.ofInt 64 x).toInt = wrap64 x := by
  rw [BitVec.toInt_ofInt]; unfold wrap64; rw [Int.bmod_def]; omega
theorem w_add_l (a b : Int) : wrap64 (wrap64 a + b) = wrap64 (a + b) := by unfold wrap64; omega
theorem w_add_r (a b : Int) : wrap64 (a + wrap64 b) = wrap64 (a + b) := by unfold wrap64; omega
theorem w_neg (a : Int) : wrap64 (-(wrap64 a)) = wrap64 (-a) := by unfold wrap64; omega
theorem w_w (a : Int) : wrap64 (wrap64 a) = wrap64 a := by unfold wrap64; omega
theorem w_mul_l (a b : Int) : wrap64 (wrap64 a * b) = wrap64 (a * b) := by
  rw [← w_toInt, ← w_toInt (a * b), BitVec.ofInt_mul, BitVec.ofInt_mul, ← w_toInt a, BitVec.ofInt_toInt]
theorem w_mul_r (a b : Int) : wrap64 (a * wrap64 b) = wrap64 (a * b) := by
  rw [Int.mul_comm, w_mul_l, Int.mul_comm]
theorem w_zero : wrap64 0 = 0 := by unfold wrap64; omega
theorem ext4 {m n : M4} (h1 : m.a = n.a) (h2 : m.b = n.b) (h3 : m.c = n.c) (h4 : m.d = n.d) : m = n := by
  cases m; cases n; simp_all

theorem mul_assoc (x y z : M4) : mul (mul x y) z = mul x (mul y z) := by
  apply ext4 <;> simp only [mul, w_add_l, w_add_r, w_mul_l, w_mul_r] <;> (congr 1; grind)
theorem det_mul (x y : M4) : det (mul x y) = wrap64 (det x * det y) := by
  simp only [mul, det, w_add_l, w_add_r, w_mul_l, w_mul_r, w_neg] ; (congr 1; grind)
theorem trace_mul (x y : M4) : trace (mul x y) = trace (mul y x) := by
  simp only [mul, trace, w_add_l, w_add_r] ; (congr 1; grind)
/-- the matrix one -/
def one : M4 := ⟨1, 0, 0, 1⟩
theorem mul_one {x : M4} (h : x.ok) : mul x one = x := by
  obtain ⟨h1, h2, h3, h4⟩ := h
  apply ext4 <;> simp [mul, one, w_add_l, w_add_r, h1, h2, h3, h4]
theorem one_mul {x : M4} (h : x.ok) : mul one x = x := by
  obtain ⟨h1, h2, h3, h4⟩ := h
  apply ext4 <;> simp [mul, one, w_add_l, w_add_r, h1, h2, h3, h4]
theorem mul_ok (x y : M4) : (mul x y).ok := ⟨w_w _, w_w _, w_w _, w_w _⟩
theorem turned_turned {x : M4} (h : x.ok) : turned (turned x) = x := by
  obtain ⟨h1, h2, h3, h4⟩ := h
  apply ext4 <;> simp [turned, w_neg, h2, h3]
theorem mul_turned (x : M4) : mul x (turned x) = ⟨det x, 0, 0, det x⟩ := by
  apply ext4 <;> simp only [mul, turned, det, w_add_l, w_add_r, w_mul_r, w_neg]
  · congr 1; grind
  · rw [show (x.a * -x.b + x.b * x.a : Int) = 0 by grind]; exact w_zero
  · rw [show (x.c * x.d + x.d * -x.c : Int) = 0 by grind]; exact w_zero
  · congr 1; grind
theorem turned_mul (x : M4) : mul (turned x) x = ⟨det x, 0, 0, det x⟩ := by
  apply ext4 <;> simp only [mul, turned, det, w_add_l, w_add_r, w_mul_l, w_neg]
  · congr 1; grind
  · rw [show (x.d * x.b + -x.b * x.d : Int) = 0 by grind]; exact w_zero
  · rw [show (-x.c * x.a + x.a * x.c : Int) = 0 by grind]; exact w_zero
  · congr 1; grind
end M4
end Go.Proofs.Ytalalbhhlbeghaa
