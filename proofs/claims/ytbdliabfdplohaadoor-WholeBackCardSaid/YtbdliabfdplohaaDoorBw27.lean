/- Several texts in one: Nil, Fill, Grow. -/
import Derived.Test.YtbdliabfdplohaaDoorBw26
set_option maxRecDepth 100000
set_option maxHeartbeats 8000000
/- The other lists of a Book, of which there is none. (Written by wip/book/gennil.py.) -/
namespace Go.Proofs.YtbdliabfdplohaaDoor
open Go.RowKit

/- fillLimb: marks are written into all lists of a Book. -/

/- growLimb: 70 marks more are put behind each list of a Book. -/

section
variable {w0 w w' : World} {b g0 cap m B0 : Nat} {l long : Nat → Value} {n : Nat → Nat} {i Nh k : Nat} {v v' : Value}
theorem Blk.kept {g : Nat} {t : TypeId} {cs : Array Value} (h : Blk w g t cs) {row : Option Nat} (hg : w.grownBy w' row) (hn : some g ≠ row) : Blk w' g t cs := (hg.block g h.lt hn).trans h
end
end Go.Proofs.YtbdliabfdplohaaDoor
