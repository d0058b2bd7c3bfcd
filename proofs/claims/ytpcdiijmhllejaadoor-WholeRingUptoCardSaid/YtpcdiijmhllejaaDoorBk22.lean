/- Several texts in one: IntFree, RefTimes. -/
import Derived.Test.YtpcdiijmhllejaaDoorBk02
import Derived.Test.YtpcdiijmhllejaaDoorBk21
import Derived.Test.YtpcdiijmhllejaaDoorBk19
import Derived.Test.YtpcdiijmhllejaaDoorBk10
import Derived.Test.YtpcdiijmhllejaaDoorBk15
/- Whole numbers in regions that draw their order: what is told of them stays. -/
namespace Go.Proofs.YtpcdiijmhllejaaDoor
open Go.RowKit

theorem intInfo : (Tryd.prog.info? 24).map (·.size) = some 2 := by kernel_rfl
theorem IntOwn.kept {B : Nat} {Ts : List TypeId} {w w' : World} {base : Nat} {v : Value} {x : Int} (h : IntOwn w base v x) (k : KeptV B Ts w w') (hT : 48 ∉ Ts) : IntOwn w' base v x := by
  obtain ⟨A, c, h1, h2, h3, h4⟩ := h.form
  exact ⟨A, c, h1, h2, h3, k.own h4 hT⟩
theorem OwnN.kept {B : Nat} {Ts : List TypeId} {w w' : World} {base n : Nat} {v : Value} (h : OwnN w base v n) (k : KeptV B Ts w w') (hT : 48 ∉ Ts) : OwnN w' base v n := by
  obtain ⟨A, c, h1, h2, h3, h4⟩ := h.form
  exact ⟨A, c, h1, h2, h3, k.own h4 hT⟩
theorem OwnX.kept {B : Nat} {Ts : List TypeId} {w w' : World} {base : Nat} {v : Value} {zs : List Nat} (h : OwnX w base v zs) (k : KeptV B Ts w w') (hT : 48 ∉ Ts) : OwnX w' base v zs := by
  obtain ⟨A, c, h1, h2, h3, h4⟩ := h.form
  exact ⟨h.limbs, A, c, h1, h2, h3, k.own h4 hT⟩
theorem OwnX.raw {w : World} {base c : Nat} {A : Option Addr} {zs : List Nat} (h : OwnX w base (.slice A zs.length c) zs) : Raw w A c zs := by
  obtain ⟨A', c', h1, h2, h3, h4⟩ := h.form
  injection h1 with a1 a2 a3
  subst a1 a3
  exact ⟨h.limbs, h2, h3, Reads.of_own h4⟩
/-- The cells of a number. -/
theorem IntOwn.cells {w : World} {base : Nat} {v : Value} {x : Int} (h : IntOwn w base v x) : CellsN v 2 := by
  obtain ⟨A, c, rfl, -⟩ := h.form
  exact ⟨rfl, by simp [Value.cells, Value.oneCell']⟩
/-- The blocks of a number. -/
def blkInt (v : Value) (g : Nat) : Prop := blkOf v = some g
/-- Two results of numbers of the call's own, told nothing of one another. -/
def RetBoth (base : Nat) (w : World) (z1 z2 : Int) (e : Ending) (w' : World) : Prop := ∃ v1 v2, e = .returned (.tuple #[v1, v2]) ∧ IntOwn w' base v1 z1 ∧ IntOwn w' base v2 z2 ∧ Below w.heap.size w w'
theorem allocInt {o : Oper} (h : o.op = .alloc 24) : AllocF Tryd.prog o 24 2 := by
  refine ⟨#[.bool false, .slice none 0 0], rfl, fun ρ w => ?_⟩
  unfold execOp
  rw [h]
  kernel_rfl
/-- A number of the call's own that is not below nought: its limbs. -/
theorem IntOwn.nat {w : World} {base n : Nat} {v : Value} (h : IntOwn w base v (n : Int)) : ∃ A c, v = .agg #[.bool false, .slice A (natL n).length c] ∧ OwnN w base (.slice A (natL n).length c) n := by
  obtain ⟨A, c, h1, h2, h3, h4⟩ := h.form
  have e : decide ((n : Int) < 0) = false := by simp
  rw [e] at h1
  simp only [Int.natAbs_natCast] at h1 h2 h3 h4
  exact ⟨A, c, h1, A, c, rfl, h2, h3, h4⟩
theorem OwnN.int {w : World} {base n c : Nat} {A : Option Addr} (h : OwnN w base (.slice A (natL n).length c) n) : IntOwn w base (.agg #[.bool false, .slice A (natL n).length c]) (n : Int) := by
  obtain ⟨A', c', h1, h2, h3, h4⟩ := h.form
  injection h1 with a1 a2 a3
  subst a1 a3
  have e : decide ((n : Int) < 0) = false := by simp
  exact ⟨A, c, by rw [e]; rfl, h2, h3, h4⟩
theorem Pair.size {w : World} {g : Nat} {t : TypeId} {a b : Value} (h : Pair w g t a b) : g < w.heap.size := h.blk.lt
theorem IntOwn.shape {w : World} {base : Nat} {v : Value} {x : Int} (h : IntOwn w base v x) : ∃ b A k c, v = .agg #[.bool b, .slice A k c] := by
  obtain ⟨A, c, h1, -⟩ := h.form
  exact ⟨_, _, _, _, h1⟩
/-- Stores into a variable leave limbs as they are. -/
theorem OwnN.pair {w : World} {base n g : Nat} {v a b : Value} (h : OwnN w base v n) (p : Pair w g 24 a b) (x y : Value) : OwnN ((w.setCell ⟨g, 0, none⟩ x).setCell ⟨g, 1, none⟩ y) base v n := by
  obtain ⟨A, c, h1, h2, h3, h4⟩ := h.form
  exact ⟨A, c, h1, h2, h3, own_pair h4 (own_blk_ne h4 p.blk (by decide))⟩
end Go.Proofs.YtpcdiijmhllejaaDoor

/- times, fitting, half, even of the references. -/
namespace Go.Proofs.YtpcdiijmhllejaaDoor
open Go.RowKit

theorem Row.rawN {w : World} {g : Nat} {zs : List Nat} (h : Row w g zs) (hz : Limbs zs) (hm : zs.length ≤ 9223372036854775807) : Raw w (some ⟨g, 0, none⟩) zs.length (natL (val zs)) :=
  ⟨limbs_natL _, natL_val_le hz, hm, by have := h.reads.take (natL (val zs)).length; rwa [← natL_take hz] at this⟩

theorem val_even {xs : List Nat} (h : 0 < xs.length) : val xs % 2 = xs[0] % 2 := by
  cases xs with
  | nil => simp at h
  | cons x xs => simp only [val, List.getElem_cons_zero]; omega
end Go.Proofs.YtpcdiijmhllejaaDoor
