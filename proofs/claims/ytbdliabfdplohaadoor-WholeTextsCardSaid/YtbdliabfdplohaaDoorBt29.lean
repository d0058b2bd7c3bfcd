/- Several texts in one: Quo, IntFree. -/
import Derived.Test.YtbdliabfdplohaaDoorBt28
import Derived.Test.YtbdliabfdplohaaDoorBt24
set_option maxRecDepth 100000
set_option maxHeartbeats 8000000
/- Divide of package exact: the quotient toward nought, and what is left. (Written by wip/exact/gendivide.py.) -/
namespace Go.Proofs.YtbdliabfdplohaaDoor
open Go.RowKit

structure Stored (w V : World) (base gq gr : Nat) (v1 : Value) (z1 : Int) (v2 : Value) (z2 : Int) (b1 : Bool) (s1 : Value) (b2 : Bool) (s2 : Value) : Prop where
  ints : Ints2 V base v1 z1 v2 z2
  pq : Pair V gq 24 (.bool b1) s1
  pr : Pair V gr 24 (.bool b2) s2
  low : Below w.heap.size w V
def AggBool (u : Value) : Prop := ∃ (b : Bool) (A : Option Addr) (k c : Nat), u = .agg #[.bool b, .slice A k c]
theorem Stored.one {w V : World} {base gq gr : Nat} {v1 v2 : Value} {z1 z2 : Int} {b1 b2 : Bool} {s1 s2 : Value} (h : Stored w V base gq gr v1 z1 v2 z2 b1 s1 b2 s2) (hgq : gq < base) (hne : gr ≠ gq) (hw : w.heap.size ≤ gq) (b : Bool) (s : Value) : Stored w ((V.setCell ⟨gq, 0, none⟩ (.bool b)).setCell ⟨gq, 1, none⟩ s) base gq gr v1 z1 v2 z2 b s b2 s2 :=
  ⟨h.ints.pair hgq, h.pq.store _ _, h.pr.far hne _ _, below2 h.low hw _ _⟩
structure Stored2 (w V : World) (base gq gr : Nat) (v1 : Value) (z1 : Int) (v2 : Value) (z2 : Int) (b1 : Bool) (s1 : Value) : Prop where
  ex : ∃ (b2 : Bool) (s2 : Value), v2 = .agg #[.bool b2, s2] ∧ Stored w V base gq gr v1 z1 v2 z2 b1 s1 b2 s2
theorem Stored.two {w V : World} {base gq gr : Nat} {v1 v2 : Value} {z1 z2 : Int} {b1 b2 : Bool} {s1 s2 : Value} (h : Stored w V base gq gr v1 z1 v2 z2 b1 s1 b2 s2) (hgr : gr < base) (hne : gq ≠ gr) (hw : w.heap.size ≤ gr) (b : Bool) (s : Value) : Stored w ((V.setCell ⟨gr, 0, none⟩ (.bool b)).setCell ⟨gr, 1, none⟩ s) base gq gr v1 z1 v2 z2 b1 s1 b s :=
  ⟨h.ints.pair hgr, h.pq.far hne _ _, h.pr.store _ _, below2 h.low hw _ _⟩

/- Whole numbers in regions that draw their order: what is told of them stays. -/

theorem IntOwn.kept {B : Nat} {Ts : List TypeId} {w w' : World} {base : Nat} {v : Value} {x : Int} (h : IntOwn w base v x) (k : KeptV B Ts w w') (hT : 40 ∉ Ts) : IntOwn w' base v x := by
  obtain ⟨A, c, h1, h2, h3, h4⟩ := h.form
  exact ⟨A, c, h1, h2, h3, k.own h4 hT⟩
theorem OwnN.kept {B : Nat} {Ts : List TypeId} {w w' : World} {base n : Nat} {v : Value} (h : OwnN w base v n) (k : KeptV B Ts w w') (hT : 40 ∉ Ts) : OwnN w' base v n := by
  obtain ⟨A, c, h1, h2, h3, h4⟩ := h.form
  exact ⟨A, c, h1, h2, h3, k.own h4 hT⟩
theorem OwnX.kept {B : Nat} {Ts : List TypeId} {w w' : World} {base : Nat} {v : Value} {zs : List Nat} (h : OwnX w base v zs) (k : KeptV B Ts w w') (hT : 40 ∉ Ts) : OwnX w' base v zs := by
  obtain ⟨A, c, h1, h2, h3, h4⟩ := h.form
  exact ⟨h.limbs, A, c, h1, h2, h3, k.own h4 hT⟩
theorem OwnX.raw {w : World} {base c : Nat} {A : Option Addr} {zs : List Nat} (h : OwnX w base (.slice A zs.length c) zs) : Raw w A c zs := by
  obtain ⟨A', c', h1, h2, h3, h4⟩ := h.form
  injection h1 with a1 a2 a3
  subst a1 a3
  exact ⟨h.limbs, h2, h3, Reads.of_own h4⟩
theorem IntOwn.cells {w : World} {base : Nat} {v : Value} {x : Int} (h : IntOwn w base v x) : CellsN v 2 := by
  obtain ⟨A, c, rfl, -⟩ := h.form
  exact ⟨rfl, by simp [Value.cells, Value.oneCell']⟩
def blkInt (v : Value) (g : Nat) : Prop := blkOf v = some g
def RetBoth (base : Nat) (w : World) (z1 z2 : Int) (e : Ending) (w' : World) : Prop := ∃ v1 v2, e = .returned (.tuple #[v1, v2]) ∧ IntOwn w' base v1 z1 ∧ IntOwn w' base v2 z2 ∧ Below w.heap.size w w'
theorem OwnN.int {w : World} {base n c : Nat} {A : Option Addr} (h : OwnN w base (.slice A (natL n).length c) n) : IntOwn w base (.agg #[.bool false, .slice A (natL n).length c]) (n : Int) := by
  obtain ⟨A', c', h1, h2, h3, h4⟩ := h.form
  injection h1 with a1 a2 a3
  subst a1 a3
  have e : decide ((n : Int) < 0) = false := by simp
  exact ⟨A, c, by rw [e]; rfl, h2, h3, h4⟩
theorem Pair.size {w : World} {g : Nat} {t : TypeId} {a b : Value} (h : Pair w g t a b) : g < w.heap.size := h.blk.lt
theorem IntOwn.shape {w : World} {base : Nat} {v : Value} {x : Int} (h : IntOwn w base v x) : ∃ b A k c, v = .agg #[.bool b, .slice A k c] := by
  obtain ⟨A, c, h1, -⟩ := h.form
  exact ⟨_, _, _, _, h1⟩
theorem OwnN.pair {w : World} {base n g : Nat} {v a b : Value} (h : OwnN w base v n) (p : Pair w g 24 a b) (x y : Value) : OwnN ((w.setCell ⟨g, 0, none⟩ x).setCell ⟨g, 1, none⟩ y) base v n := by
  obtain ⟨A, c, h1, h2, h3, h4⟩ := h.form
  exact ⟨A, c, h1, h2, h3, own_pair h4 (own_blk_ne h4 p.blk (by decide))⟩
end Go.Proofs.YtbdliabfdplohaaDoor
