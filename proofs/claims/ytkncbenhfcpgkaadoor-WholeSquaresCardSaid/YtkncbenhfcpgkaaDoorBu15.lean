/- Several texts in one: IntFree, RefTimes, RefDivide. -/
import Derived.Test.YtkncbenhfcpgkaaDoorBu02
import Derived.Test.YtkncbenhfcpgkaaDoorBu14
import Derived.Test.YtkncbenhfcpgkaaDoorBu12
import Derived.Test.YtkncbenhfcpgkaaDoorBu13
import Derived.Test.YtkncbenhfcpgkaaDoorBu10
import Derived.Test.YtkncbenhfcpgkaaDoorBu09
import Derived.Test.YtkncbenhfcpgkaaDoorBu01
import Derived.Test.YtkncbenhfcpgkaaDoorBu05
import Derived.Test.YtkncbenhfcpgkaaDoorBu04
import Derived.Test.YtkncbenhfcpgkaaDoorBu03
import Derived.Test.YtkncbenhfcpgkaaDoorBu11
import Derived.Test.YtkncbenhfcpgkaaDoorBu06
import Derived.Test.YtkncbenhfcpgkaaDoorBu08
import Derived.Test.YtkncbenhfcpgkaaDoorBu07
set_option maxRecDepth 100000
set_option maxHeartbeats 8000000
/- Whole numbers in regions that draw their order: what is told of them stays. -/
namespace Go.Proofs.YtkncbenhfcpgkaaDoor
open Go.RowKit

theorem intInfo : (Tryd.prog.info? 24).map (·.size) = some 2 := by kernel_rfl
theorem IntOwn.kept {B : Nat} {Ts : List TypeId} {w w' : World} {base : Nat} {v : Value} {x : Int} (h : IntOwn w base v x) (k : KeptV B Ts w w') (hT : 45 ∉ Ts) : IntOwn w' base v x := by
  obtain ⟨A, c, h1, h2, h3, h4⟩ := h.form
  exact ⟨A, c, h1, h2, h3, k.own h4 hT⟩
theorem OwnN.kept {B : Nat} {Ts : List TypeId} {w w' : World} {base n : Nat} {v : Value} (h : OwnN w base v n) (k : KeptV B Ts w w') (hT : 45 ∉ Ts) : OwnN w' base v n := by
  obtain ⟨A, c, h1, h2, h3, h4⟩ := h.form
  exact ⟨A, c, h1, h2, h3, k.own h4 hT⟩
theorem OwnX.kept {B : Nat} {Ts : List TypeId} {w w' : World} {base : Nat} {v : Value} {zs : List Nat} (h : OwnX w base v zs) (k : KeptV B Ts w w') (hT : 45 ∉ Ts) : OwnX w' base v zs := by
  obtain ⟨A, c, h1, h2, h3, h4⟩ := h.form
  exact ⟨h.limbs, A, c, h1, h2, h3, k.own h4 hT⟩
theorem OwnX.raw {w : World} {base c : Nat} {A : Option Addr} {zs : List Nat} (h : OwnX w base (.slice A zs.length c) zs) : Raw w A c zs := by
  obtain ⟨A', c', h1, h2, h3, h4⟩ := h.form
  injection h1 with a1 a2 a3
  subst a1 a3
  exact ⟨h.limbs, h2, h3, Reads.of_own h4⟩
theorem IntOwn.cells {w : World} {base : Nat} {v : Value} {x : Int} (h : IntOwn w base v x) : CellsN v 2 := by
  obtain ⟨A, c, rfl, -⟩ := h.form
  exact ⟨rfl, by simp [Value.cells, Value.oneCell']⟩
def blkInt (v : Value) (g : Nat) : Prop := blkOf v = some g
def RetBoth (base : Nat) (w : World) (z1 z2 : Int) (e : Ending) (w' : World) : Prop := ∃ v1 v2, e = .returned (.tuple #[v1, v2]) ∧ IntOwn w' base v1 z1 ∧ IntOwn w' base v2 z2 ∧ Below w.heap.size w w'
theorem allocInt {o : Oper} (h : o.op = .alloc 24) : AllocF Tryd.prog o 24 2 := by
  refine ⟨#[.bool false, .slice none 0 0], rfl, fun ρ w => ?_⟩
  unfold execOp
  rw [h]
  kernel_rfl
theorem OwnN.int {w : World} {base n c : Nat} {A : Option Addr} (h : OwnN w base (.slice A (natL n).length c) n) : IntOwn w base (.agg #[.bool false, .slice A (natL n).length c]) (n : Int) := by
  obtain ⟨A', c', h1, h2, h3, h4⟩ := h.form
  injection h1 with a1 a2 a3
  subst a1 a3
  have e : decide ((n : Int) < 0) = false := by simp
  exact ⟨A, c, by rw [e]; rfl, h2, h3, h4⟩
theorem Pair.size {w : World} {g : Nat} {t : TypeId} {a b : Value} (h : Pair w g t a b) : g < w.heap.size := h.blk.lt
theorem IntOwn.shape {w : World} {base : Nat} {v : Value} {x : Int} (h : IntOwn w base v x) : ∃ b A k c, v = .agg #[.bool b, .slice A k c] := by
  obtain ⟨A, c, h1, -⟩ := h.form
  exact ⟨_, _, _, _, h1⟩
theorem OwnN.pair {w : World} {base n g : Nat} {v a b : Value} (h : OwnN w base v n) (p : Pair w g 24 a b) (x y : Value) : OwnN ((w.setCell ⟨g, 0, none⟩ x).setCell ⟨g, 1, none⟩ y) base v n := by
  obtain ⟨A, c, h1, h2, h3, h4⟩ := h.form
  exact ⟨A, c, h1, h2, h3, own_pair h4 (own_blk_ne h4 p.blk (by decide))⟩
/- times, fitting, half, even of the references. -/

/- divide of the references: long division, limb by limb. -/

def RetNN (base : Nat) (w : World) (n1 n2 : Nat) (e : Ending) (w' : World) : Prop := ∃ v1 v2, e = .returned (.tuple #[v1, v2]) ∧ OwnN w' base v1 n1 ∧ OwnN w' base v2 n2 ∧ Below w.heap.size w w'

theorem own_setFar {w : World} {base : Nat} {e : TypeId} {size n g k : Nat} {v : Value} {xs : List Value} (h : w.ownsRow base e size v n xs) (hg : g < base) (u : Value) : (w.setCell ⟨g, k, none⟩ u).ownsRow base e size v n xs := by
  refine ⟨h.1, ?_⟩
  rcases h.2 with h2 | ⟨b, cap, cur, h1, h2, h3, h4⟩
  · exact .inl h2
  · exact .inr ⟨b, cap, cur, h1, h2, (Blk.far (t := e) h3 (p := ⟨g, k, none⟩) (show b ≠ g by omega) u), h4⟩
theorem OwnN.far {w : World} {base n g k : Nat} {v : Value} (h : OwnN w base v n) (hg : g < base) (u : Value) : OwnN (w.setCell ⟨g, k, none⟩ u) base v n := by
  obtain ⟨A, c, h1, h2, h3, h4⟩ := h.form
  exact ⟨A, c, h1, h2, h3, own_setFar h4 hg u⟩

structure RDiv (w wr : World) (g : Nat) (xs ys : List Nat) (v : Value) (k R : Nat) (zs : List Nat) : Prop where
  len : zs.length = xs.length
  limbs : Limbs zs
  row : Row wr g zs
  low : Below w.heap.size w wr
  own : OwnN wr (g + 1) v R
  eq : val (zs.drop k) * val ys + R = val (xs.drop k)
  lt : R < val ys
  nought : ∀ j, j < k → at0 zs j = 0
theorem RDiv.skip {w wr wr' : World} {g : Nat} {xs ys : List Nat} {v v' : Value} {k R : Nat} {zs : List Nat} (h : RDiv w wr g xs ys v (k + 1) R zs) (hk : k < xs.length) (hrow : Row wr' g zs) (hlow : Below w.heap.size w wr') (hown : OwnN wr' (g + 1) v' (xs[k] + 4294967296 * R)) (hlt : xs[k] + 4294967296 * R < val ys) :
    RDiv w wr' g xs ys v' k (xs[k] + 4294967296 * R) zs := by
  have hk2 : k < zs.length := by rw [h.len]; exact hk
  have h0 : zs[k] = 0 := by rw [← at0_lt hk2]; exact h.nought k (Nat.lt_succ_self _)
  refine ⟨h.len, h.limbs, hrow, hlow, hown, ?_, hlt, fun j hj => h.nought j (by omega)⟩
  rw [val_drop_more hk2, val_drop_more hk, h0, ← h.eq, Nat.zero_add, Nat.mul_add, Nat.mul_assoc]
  omega
theorem RDiv.take {w wr wr' : World} {g : Nat} {xs ys : List Nat} {v v' : Value} {k R q : Nat} {zs : List Nat} (h : RDiv w wr g xs ys v (k + 1) R zs) (hk : k < xs.length) (hq : q = (xs[k] + 4294967296 * R) / val ys) (hq2 : q < 4294967296) (hrow : Row wr' g (zs.set k q)) (hlow : Below w.heap.size w wr') (hown : OwnN wr' (g + 1) v' (xs[k] + 4294967296 * R - val ys * q)) :
    RDiv w wr' g xs ys v' k (xs[k] + 4294967296 * R - val ys * q) (zs.set k q) := by
  have hk2 : k < zs.length := by rw [h.len]; exact hk
  have hY : 0 < val ys := by have := h.lt; omega
  have hd := Nat.div_add_mod (xs[k] + 4294967296 * R) (val ys)
  have hm := Nat.mod_lt (xs[k] + 4294967296 * R) hY
  rw [← hq] at hd
  refine ⟨by rw [List.length_set]; exact h.len, limbs_set h.limbs hq2, hrow, hlow, hown, ?_, by omega, fun j hj => ?_⟩
  · rw [val_drop_set hk2, val_drop_more hk, ← h.eq, Nat.add_mul, Nat.mul_assoc 4294967296, Nat.mul_add, Nat.mul_comm q]
    omega
  · rw [at0_set_ne (by omega)]; exact h.nought j (by omega)
theorem RDiv.stop {w wr : World} {g : Nat} {xs ys : List Nat} {v : Value} {R : Nat} {zs : List Nat} (h : RDiv w wr g xs ys v 0 R zs) : val zs = val xs / val ys ∧ R = val xs % val ys := by
  have e := h.eq
  have hl := h.lt
  simp only [List.drop_zero] at e
  have hY : 0 < val ys := by omega
  rw [← e]
  constructor
  · rw [Nat.add_comm, Nat.add_mul_div_right _ _ hY, Nat.div_eq_of_lt hl, Nat.zero_add]
  · rw [Nat.mul_add_mod_self_right, Nat.mod_eq_of_lt hl]

end Go.Proofs.YtkncbenhfcpgkaaDoor
