/- Several texts in one: Divide, Own. -/
import Derived.Test.YtbdliabfdplohaaDoorBt27
import Derived.Test.YtbdliabfdplohaaDoorBt22
set_option maxRecDepth 100000
set_option maxHeartbeats 8000000
/- divide of package exact: long division, its quotient and what is left. -/
namespace Go.Proofs.YtbdliabfdplohaaDoor
open Go.RowKit

/- A number of one's own; two results that share no memory; own of package exact. -/

def blkOf : Value → Option Nat
  | .agg #[_, s] => s.ownBlock
  | _ => none
structure Ints2 (w : World) (base : Nat) (v1 : Value) (z1 : Int) (v2 : Value) (z2 : Int) : Prop where
  one : IntOwn w base v1 z1
  two : IntOwn w base v2 z2
  apart : ∀ g, blkOf v1 = some g → blkOf v2 ≠ some g
theorem Ints2.below {w w' : World} {base : Nat} {v1 v2 : Value} {z1 z2 : Int} (h : Ints2 w base v1 z1 v2 z2) (hb : Below w.heap.size w w') : Ints2 w' base v1 z1 v2 z2 := ⟨h.one.below hb, h.two.below hb, h.apart⟩
theorem Ints2.base {w : World} {b b' : Nat} {v1 v2 : Value} {z1 z2 : Int} (h : Ints2 w b v1 z1 v2 z2) (hb : b' ≤ b) : Ints2 w b' v1 z1 v2 z2 := ⟨h.one.base hb, h.two.base hb, h.apart⟩
theorem Ints2.pair {w : World} {g base : Nat} {a b : Value} {v1 v2 : Value} {z1 z2 : Int} (h : Ints2 w base v1 z1 v2 z2) (hne : g < base) : Ints2 ((w.setCell ⟨g, 0, none⟩ a).setCell ⟨g, 1, none⟩ b) base v1 z1 v2 z2 := ⟨h.one.pair hne, h.two.pair hne, h.apart⟩
def RetTwo (base : Nat) (w : World) (z1 z2 : Int) (e : Ending) (w' : World) : Prop := ∃ v1 v2, e = .returned (.tuple #[v1, v2]) ∧ Ints2 w' base v1 z1 v2 z2 ∧ Below w.heap.size w w'

end Go.Proofs.YtbdliabfdplohaaDoor
