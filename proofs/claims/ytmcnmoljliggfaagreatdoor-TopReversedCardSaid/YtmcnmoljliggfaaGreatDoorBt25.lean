/- Several texts in one: PutN, FClos, TreesR, FRefMake, FRefDo. -/
import Derived.Test.YtmcnmoljliggfaaGreatDoorBt23
set_option maxRecDepth 100000
set_option maxHeartbeats 8000000
/- A value of many cells is loaded, stored, handed back: by laws. -/
namespace Go.Proofs.YtmcnmoljliggfaaGreatDoor
open Go.RowKit

structure PutN (w : World) (g : Nat) (T : TypeId) (v : Value) (w' : World) : Prop where
  blk : Blk w' g T v.cells
  far : ∀ k, k ≠ g → w'.heap[k]? = w.heap[k]?
  kept : ∀ B, B ≤ g → KeptV B [T] w w'
  below : ∀ {B W}, Below B W w → B ≤ g → Below B W w'
theorem wpList_store_N {ops : Array Oper} {rest : List Oper} {o : Oper} {a : Act} {w : World} {Q : Exit → Act → World → Prop} (hgd : o.guard = none) (T : TypeId) (x y : Operand) (ho : o.op = .store T x y) (hd : o.dst = none)
    (g : Nat) (v : Value) (cs : Array Value) (n : Nat) (hx : a.eval x = .pointer (some ⟨g, 0, none⟩)) (hy : a.eval y = v) (hb : Blk w g T cs) (hs : cs.size = n) (hn : CellsN v n) (hi : (Tryz.prog.info? T).map (·.size) = some n)
    (hK : ∀ w', PutN w g T v w' → wpList Tryz.prog ops Q rest a w') : wpList Tryz.prog ops Q (o :: rest) a w := by
  have ht : w.there g 0 v.cells.size := by
    have := hb.there
    rwa [hs, ← hn.1] at this
  refine wpList_plain hgd fun _ h9 => wp_store_cells T x y ho g 0 v hx hy ht (by rw [hi, hn.1]) hn.2 (h9 _ _ ?_)
  rw [hd]
  refine hK _ ⟨?_, setCells_far g _ 0 w, fun B hB => KeptV.setCells hb (List.mem_singleton.2 rfl) hB 0 _, fun h hB => below_setCells hB _ _ _ h⟩
  have h1 := hb.setCells v.cells.toList 0
  rwa [setAll_all _ _ (hs.trans hn.1.symm)] at h1
theorem wpList_load_M {ops : Array Oper} {rest : List Oper} {o : Oper} {a : Act} {w : World} {Q : Exit → Act → World → Prop} (hgd : o.guard = none) (x : Operand) (ho : o.op = .load 38 x)
    (g : Nat) (hx : a.eval x = .pointer (some ⟨g, 0, none⟩)) (T : TypeId) (cs : Array Value) (hb : Blk w g T cs) (hs : cs.size = 16) (h : wpList Tryz.prog ops Q rest (a.put o.dst (.agg cs)) w) : wpList Tryz.prog ops Q (o :: rest) a w :=
  wpList_load_row hgd _ x ho g hx _ _ _ _ hb Tryz.underlying38 rfl (by rw [hs]; exact matInfo) h
theorem wpList_store_M {ops : Array Oper} {rest : List Oper} {o : Oper} {a : Act} {w : World} {Q : Exit → Act → World → Prop} (hgd : o.guard = none) (x y : Operand) (ho : o.op = .store 38 x y) (hd : o.dst = none)
    (g : Nat) (v : Value) (cs : Array Value) (hx : a.eval x = .pointer (some ⟨g, 0, none⟩)) (hy : a.eval y = v) (hb : Blk w g 38 cs) (hs : cs.size = 16) (hn : CellsN v 16)
    (hK : ∀ w', PutN w g 38 v w' → wpList Tryz.prog ops Q rest a w') : wpList Tryz.prog ops Q (o :: rest) a w :=
  wpList_store_N hgd _ x y ho hd g v cs 16 hx hy hb hs hn matInfo hK
/- Add, Sub, Mul, Quo of package frac. (Written by wip/frac/genfclos2.py.) -/

structure TupF (base : Nat) (n d k : Int) (u : Value) (V : World) : Prop where
  form : ∃ v, u = .tuple #[v, .int .i64 k] ∧ FracOwn V base v n d
structure BlkH (w : World) (g : Nat) (t : TypeId) (cs : Array Value) : Prop where
  blk : Blk w g t cs
/- Plus, Minus, Times, Over, Cmp of the references of chapter 02. (Written by wip/frac/gentrees.py.) -/

structure TurnIn (z d : Int) (B : Option Addr) (e0 : Nat) (v : Value) (V : World) : Prop where
  form : ∃ A c, v = .agg #[.bool (decide (z < 0)), .slice A (natL z.natAbs).length c, .bool (decide (d < 0)), .slice B (natL d.natAbs).length e0] ∧ IntOwn V 0 (.agg #[.bool (decide (z < 0)), .slice A (natL z.natAbs).length c]) z
/- Make of the references of chapter 02. (Written by wip/frac/genfmake.py ref.) -/

def RetFrac2 (w : World) (n d k : Int) (e : Ending) (w' : World) : Prop := ∃ v, e = .returned (.tuple #[v, .int .i64 k]) ∧ FracAt w' v n d ∧ Below w.heap.size w w'
/- Do of the references of chapter 02; do of the laws. (Written by wip/frac/genfrefdo.py.) -/

end Go.Proofs.YtmcnmoljliggfaaGreatDoor
