/- Several texts in one: Root, RootR, RootEx, FRootZ, FRoot. -/
import Derived.Test.YtdonecnhdkjniaaGreatDoorGy32
set_option maxRecDepth 100000
set_option maxHeartbeats 8000000
namespace Go.Proofs.YtdonecnhdkjniaaGreatDoor
open Go.RowKit

def IsRootZ (x r : Int) : Prop := 0 <= r /\ r * r <= x /\ x < (r + 1) * (r + 1)
structure RootAt (w wr : World) (bx br : Nat) (x : Int) (A : Option Addr) (c : Nat) (r : Int) (A1 : Option Addr) (c1 : Nat) : Prop where
 px : Zp wr bx 24 (.bool (decide (x < 0))) (.slice A (Za x.natAbs).length c)
 pr : Zp wr br 24 (.bool (decide (r < 0))) (.slice A1 (Za r.natAbs).length c1)
 own : Zc wr w.heap.size (.agg #[.bool (decide (r < 0)), .slice A1 (Za r.natAbs).length c1]) r
 low : Below w.heap.size w wr
 pos : 0 < r
 above : x < (r + 1) * (r + 1)
 len : lz r <= 100000
def RetRoot (base : Nat) (w : World) (r : Int) (sq : Bool) (e : Ending) (w' : World) : Prop := ∃ v, e = .returned (.tuple #[v, .bool sq]) /\ Zc w' base v r /\ Below w.heap.size w w'





def RetFracOwn3 (base : Nat) (w : World) (n d : Int) (b : Bool) (k : Int) (e : Ending) (w' : World) : Prop := ∃ v, e = .returned (.tuple #[v, .bool b, .int .i64 k]) /\ Ze w' base v n d /\ Below w.heap.size w w'
theorem Zc.top {w : World} {base : Nat} {n : Int} {a : Value} {A : Option Addr} {k c : Nat} (h : Zc w base (.agg #[a, .slice A k c]) n) : ∀ x, (Value.slice A k c).ownBlock = some x -> base <= x /\ x < w.heap.size := h.mine
theorem Ze.of {w : World} {b1 b2 c e : Nat} {n d : Int} {A B : Option Addr} (h1 : Zc w b1 (.agg #[.bool (decide (n < 0)), .slice A (Za n.natAbs).length c]) n) (h2 : Zc w b2 (.agg #[.bool (decide (d < 0)), .slice B (Za d.natAbs).length e]) d) (hb : b1 <= b2)
  (ht : ∀ x, (Value.slice A (Za n.natAbs).length c).ownBlock = some x -> x < b2) : Ze w b1 (.agg #[.bool (decide (n < 0)), .slice A (Za n.natAbs).length c, .bool (decide (d < 0)), .slice B (Za d.natAbs).length e]) n d := by
 refine ⟨A, c, B, e, rfl, h1, h2.base hb, fun g h h' => ?_⟩
 have := ht g h
 have := (h2.top g h').1
 omega

end Go.Proofs.YtdonecnhdkjniaaGreatDoor
