/- Several texts in one: FCost, Nil, Fill, Grow, GrowW. -/
import Derived.Test.YtmcnmoljliggfaaGreatDoorBt17
set_option maxRecDepth 100000
set_option maxHeartbeats 8000000
/- What lowest terms may cost. -/
namespace Go.Proofs.YtmcnmoljliggfaaGreatDoor
open Go.RowKit

def costLow (a b : Nat) : Int := ((min a 1048576 : Nat) : Int) * ((min b 1048576 : Nat) : Int) / 16 * 1024
theorem cost_low (n1 n2 : Bool) (A B : Option Addr) (c e0 : Nat) (xs ys : List Nat) (w : World) (h : Raw w A c xs) (g : Raw w B e0 ys) :
    Calls Tryz.prog 58 #[.agg #[.bool n1, .slice A xs.length c], .agg #[.bool n2, .slice B ys.length e0]] w fun e w' => e = .returned (.int .i64 (costLow xs.length ys.length)) ∧ Below w.heap.size w w' := by
  have h1 := h.cap
  have h2 := h.most
  have g1 := g.cap
  have g2 := g.most
  generalize xs.length = a at h1 ⊢
  generalize ys.length = b at g1 ⊢
  clear h g
  have ha : (a : Int) ≤ 9223372036854775807 := by omega
  have hb : (b : Int) ≤ 9223372036854775807 := by omega
  clear h1 h2 g1 g2
  have b0 := Hd (((Below.refl w.heap.size w).alloc (Nat.le_refl _) (.cells #[.bool n1, .slice A a c] 25)).alloc (by simp) (.cells #[.bool n2, .slice B b e0] 25))
  go_enter Tryz.func58, Tryz.ntmps58
  go_wp2_with fail
  go_ret
  refine ⟨?_, b0.out⟩
  obtain ⟨p, hp⟩ : ∃ p : Int, p = min (a : Int) 1048576 := ⟨_, rfl⟩
  obtain ⟨q, hq⟩ : ∃ q : Int, q = min (b : Int) 1048576 := ⟨_, rfl⟩
  have p0 : 0 ≤ p ∧ p ≤ 1048576 := by omega
  have q0 : 0 ≤ q ∧ q ≤ 1048576 := by omega
  have e : costLow a b = p * q / 16 * 1024 := by
    unfold costLow
    rw [show ((min a 1048576 : Nat) : Int) = p by omega, show ((min b 1048576 : Nat) : Int) = q by omega]
  rw [e, ← hp, ← hq]
  have m0 : 0 ≤ p * q := Int.mul_nonneg p0.1 q0.1
  have m1 : p * q ≤ 1048576 * 1048576 := Int.mul_le_mul p0.2 q0.2 q0.1 (by decide)
  generalize p * q = z at m0 m1 ⊢
  have w1 : wrap64 z = z := by unfold wrap64; omega
  have w2 : wrap64 (z.tdiv 16) = z / 16 := by
    rw [Int.tdiv_eq_ediv_of_nonneg m0]
    unfold wrap64; omega
  have w3 : wrap64 (z / 16 * 1024) = z / 16 * 1024 := by unfold wrap64; omega
  rw [w1, w2, w3]
  rfl
/- The other lists of a Book, of which there is none. (Written by wip/book/gennil.py.) -/

/- fillLimb: marks are written into all lists of a Book. -/

/- growLimb: 70 marks more are put behind each list of a Book. -/

section
variable {w0 w w' : World} {b g0 cap m B0 : Nat} {l long : Nat → Value} {n : Nat → Nat} {i Nh k : Nat} {v v' : Value}
end
/- growLimb: the walk. -/

end Go.Proofs.YtmcnmoljliggfaaGreatDoor
