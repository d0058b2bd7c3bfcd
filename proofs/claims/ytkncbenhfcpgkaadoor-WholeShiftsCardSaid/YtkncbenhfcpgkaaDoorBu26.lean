/- Several texts in one: BitsLz, Root, Shift. -/
import Derived.Test.YtkncbenhfcpgkaaDoorBu25
import Derived.Test.YtkncbenhfcpgkaaDoorBu22
import Derived.Test.YtkncbenhfcpgkaaDoorBu02
import Derived.Test.YtkncbenhfcpgkaaDoorBu04
import Derived.Test.YtkncbenhfcpgkaaDoorBu11
import Derived.Test.YtkncbenhfcpgkaaDoorBu08
import Derived.Test.YtkncbenhfcpgkaaDoorBu03
import Derived.Test.YtkncbenhfcpgkaaDoorBu10
import Derived.Test.YtkncbenhfcpgkaaDoorBu09
import Derived.Test.YtkncbenhfcpgkaaDoorBu01
import Derived.Test.YtkncbenhfcpgkaaDoorBu05
import Derived.Test.YtkncbenhfcpgkaaDoorBu06
import Derived.Test.YtkncbenhfcpgkaaDoorBu07
import Derived.Test.YtkncbenhfcpgkaaDoorBu19
import Derived.Test.YtkncbenhfcpgkaaDoorBu21
import Derived.Test.YtkncbenhfcpgkaaDoorBu17
import Derived.Test.YtkncbenhfcpgkaaDoorBu18
import Derived.Test.YtkncbenhfcpgkaaDoorBu13
import Derived.Test.YtkncbenhfcpgkaaDoorBu12
import Derived.Test.YtkncbenhfcpgkaaDoorBu16
import Derived.Test.YtkncbenhfcpgkaaDoorBu14
import Derived.Test.YtkncbenhfcpgkaaDoorBu15
import Derived.Test.YtkncbenhfcpgkaaDoorBu23
import Derived.Test.YtkncbenhfcpgkaaDoorBu24
import Derived.Deep.LoopGhost
set_option maxRecDepth 100000
set_option maxHeartbeats 8000000
/- How many bits, how many limbs. -/
namespace Go.Proofs.YtkncbenhfcpgkaaDoor

def bz (x : Int) : Nat := bitsI (natL x.natAbs)
theorem bits_two {x : Int} {L : Nat} (hx : lz x ≤ L) (h0 : x ≠ 0) : 1 ≤ bitsI (natL x.natAbs) ∧ bitsI (natL x.natAbs) ≤ 32 * L := by
  obtain ⟨h1, h2, h3⟩ := bits_val (show 0 < x.natAbs by omega)
  have h4 : x.natAbs < 4294967296 ^ L := lz_le.1 hx
  rw [show (4294967296 : Nat) = 2 ^ 32 by decide, ← Nat.pow_mul] at h4
  have := (Nat.pow_lt_pow_iff_right (by omega)).1 (Nat.lt_of_le_of_lt h2 h4)
  exact ⟨h1, by omega⟩
/- Root of package exact: Newton's steps from above. (Written by wip/exact/genroot.py.) -/
open Go.RowKit

def IsRootZ (x r : Int) : Prop := 0 ≤ r ∧ r * r ≤ x ∧ x < (r + 1) * (r + 1)
structure RootAt (w wr : World) (bx br : Nat) (x : Int) (A : Option Addr) (c : Nat) (r : Int) (A1 : Option Addr) (c1 : Nat) : Prop where
  px : Pair wr bx 24 (.bool (decide (x < 0))) (.slice A (natL x.natAbs).length c)
  pr : Pair wr br 24 (.bool (decide (r < 0))) (.slice A1 (natL r.natAbs).length c1)
  own : IntOwn wr w.heap.size (.agg #[.bool (decide (r < 0)), .slice A1 (natL r.natAbs).length c1]) r
  low : Below w.heap.size w wr
  pos : 0 < r
  above : x < (r + 1) * (r + 1)
  len : lz r ≤ 100000
def RetRoot (base : Nat) (w : World) (r : Int) (sq : Bool) (e : Ending) (w' : World) : Prop := ∃ v, e = .returned (.tuple #[v, .bool sq]) ∧ IntOwn w' base v r ∧ Below w.heap.size w w'

/- Shift of package whole. (Written by wip/exact/genshift.py.) -/

def shiftV (x n : Int) : Int := if x = 0 then 0 else if n < 0 then x / ((2 ^ (min (-n) 65536).toNat : Nat) : Int) else if 65536 < (bz x : Int) + n then 0 else x * ((2 ^ n.toNat : Nat) : Int)
def shiftE (x n : Int) : Int := if x ≠ 0 ∧ 0 ≤ n ∧ 65536 < (bz x : Int) + n then 4 else 0
theorem echeck_fit (x : Int) (A : Option Addr) (c : Nat) (w : World) (h : Raw w A c (natL x.natAbs)) (hx : Fit x) :
    Calls Tryd.prog 18 #[.agg #[.bool (decide (x < 0)), .slice A (natL x.natAbs).length c]] w fun e w' => e = .returned (.int .i64 0) ∧ Below w.heap.size w w' := by
  have := exact_Check_any (decide (x < 0)) A c _ w h
  unfold errI at this
  rwa [hx.ok, if_pos rfl] at this

end Go.Proofs.YtkncbenhfcpgkaaDoor
