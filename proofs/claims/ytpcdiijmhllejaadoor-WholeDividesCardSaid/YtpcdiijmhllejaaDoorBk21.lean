/- Several texts in one: RefMul. -/
import Derived.Test.YtpcdiijmhllejaaDoorBk08
import Derived.Test.YtpcdiijmhllejaaDoorBk20
/- mul, times of the references: what they count. -/
namespace Go.Proofs.YtpcdiijmhllejaaDoor
open Go.RowKit

theorem Mid.drewN {w0 wr : World} {g L : Nat} {zs : List Nat} {top : Nat} (h : Mid w0 wr g L zs top) (n : Nat) : Mid w0 (wr.drewN n) g L zs top :=
  ⟨h.len, h.limbs, ⟨h.row.blk.drewN n⟩, below_drewN h.low n, h.nought⟩

end Go.Proofs.YtpcdiijmhllejaaDoor
