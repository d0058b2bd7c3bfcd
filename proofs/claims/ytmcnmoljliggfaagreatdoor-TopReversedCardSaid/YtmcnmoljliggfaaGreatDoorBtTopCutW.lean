/- Several texts in one: TopCutW. -/
import Derived.Test.YtmcnmoljliggfaaGreatDoorBt34
set_option maxRecDepth 100000
set_option maxHeartbeats 8000000
/- TopCut: the walk. (Written by wip/top/gentopcut.py.) -/
namespace Go.Proofs.YtmcnmoljliggfaaGreatDoor
open Go.RowKit

theorem LightS.facts {W w : World} {bx : Nat} {x : LRaw} (h : LightS W w bx x) : bx < w.heap.size ∧ w.cell? ⟨bx, 0, none⟩ = some (.slice x.A x.l.length x.c) ∧ w.cell? ⟨bx, 1, none⟩ = some (.bool x.r.y.n1) ∧ w.cell? ⟨bx, 2, none⟩ = some (.slice x.r.y.A x.r.y.xs.length x.r.y.c) ∧ w.cell? ⟨bx, 3, none⟩ = some (.bool x.r.y.n2) ∧ w.cell? ⟨bx, 4, none⟩ = some (.slice x.r.y.B x.r.y.ys.length x.r.y.e) ∧ w.cell? ⟨bx, 5, none⟩ = some (.bool x.r.u.n1) ∧ w.cell? ⟨bx, 6, none⟩ = some (.slice x.r.u.A x.r.u.xs.length x.r.u.c) ∧ w.cell? ⟨bx, 7, none⟩ = some (.bool x.r.u.n2) ∧ w.cell? ⟨bx, 8, none⟩ = some (.slice x.r.u.B x.r.u.ys.length x.r.u.e) ∧ w.cell? ⟨bx, 9, none⟩ = some (.bool x.s.y.n1) ∧ w.cell? ⟨bx, 10, none⟩ = some (.slice x.s.y.A x.s.y.xs.length x.s.y.c) ∧ w.cell? ⟨bx, 11, none⟩ = some (.bool x.s.y.n2) ∧ w.cell? ⟨bx, 12, none⟩ = some (.slice x.s.y.B x.s.y.ys.length x.s.y.e) ∧ w.cell? ⟨bx, 13, none⟩ = some (.bool x.s.u.n1) ∧ w.cell? ⟨bx, 14, none⟩ = some (.slice x.s.u.A x.s.u.xs.length x.s.u.c) ∧ w.cell? ⟨bx, 15, none⟩ = some (.bool x.s.u.n2) ∧ w.cell? ⟨bx, 16, none⟩ = some (.slice x.s.u.B x.s.u.ys.length x.s.u.e) :=
  ⟨h.blk.lt, h.blk.cell 0, h.blk.cell 1, h.blk.cell 2, h.blk.cell 3, h.blk.cell 4, h.blk.cell 5, h.blk.cell 6, h.blk.cell 7, h.blk.cell 8, h.blk.cell 9, h.blk.cell 10, h.blk.cell 11, h.blk.cell 12, h.blk.cell 13, h.blk.cell 14, h.blk.cell 15, h.blk.cell 16⟩

end Go.Proofs.YtmcnmoljliggfaaGreatDoor
