/- Several texts in one: Row, RefAdd, Front. -/
import Derived.Test.YtkncbenhfcpgkaaDoorBu05
import Derived.Test.YtkncbenhfcpgkaaDoorBu02
import Derived.Test.YtkncbenhfcpgkaaDoorBu04
import Derived.Test.YtkncbenhfcpgkaaDoorBu03
import Derived.Test.YtkncbenhfcpgkaaDoorBu01
import Derived.Test.YtkncbenhfcpgkaaDoorBuHd
import Derived.BigQuiet
set_option maxRecDepth 100000
set_option maxHeartbeats 8000000
/- Limbs in a block that a call fills; limbs of a call's own; signed over them. -/
namespace Go.Proofs.YtkncbenhfcpgkaaDoor
open Go.RowKit

structure Row (w : World) (g : Nat) (zs : List Nat) : Prop where
  blk : Blk w g 45 (cellsU zs).toArray
theorem Row.lt {w : World} {g : Nat} {zs : List Nat} (h : Row w g zs) : g < w.heap.size := h.blk.lt
theorem Row.below {w w' : World} {g : Nat} {zs : List Nat} (h : Row w g zs) (hb : Below w.heap.size w w') : Row w' g zs := ⟨h.blk.below hb h.blk.lt⟩
theorem Row.alloc {w : World} {g : Nat} {zs : List Nat} (h : Row w g zs) (o : Obj) : Row (w.alloc o) g zs := ⟨h.blk.alloc o⟩
theorem Row.cell {w : World} {g : Nat} {zs : List Nat} (h : Row w g zs) {k : Nat} (hk : k < zs.length) : w.cell? ⟨g, k, none⟩ = some (.int .u32 zs[k]) := by
  rw [h.blk.cell, List.getElem?_toArray, cellsU_get hk]
theorem Row.frozen {w : World} {g : Nat} {zs : List Nat} (h : Row w g zs) (k : Nat) : w.frozen? ⟨g, k, none⟩ = false := h.blk.frozen k
theorem Row.set {w : World} {g : Nat} {zs : List Nat} (h : Row w g zs) (k d : Nat) : Row (w.setCell ⟨g, k, none⟩ (.int .u32 (d : Int))) g (zs.set k d) := by
  have e : (cellsU (zs.set k d)).toArray = (cellsU zs).toArray.setIfInBounds k (.int .u32 (d : Int)) := by
    simp [cellsU, List.map_set]
  exact ⟨by rw [e]; exact h.blk.set_ k _⟩
theorem Row.made (w : World) (n : Nat) : Row (w.alloc (.cells (madeCells #[.int .u32 0] n) 45)) w.heap.size (List.replicate n 0) := by
  have e : (cellsU (List.replicate n 0)).toArray = madeCells #[.int .u32 0] n := by
    apply Array.ext
    · simp [cellsU, size_madeCells]
    · intro i h1 h2
      have e : i % 1 = 0 := Nat.mod_one i
      simp [cellsU, madeCells, e]
  exact ⟨by rw [e]; exact Blk.new w _ _⟩
theorem Row.own {w : World} {g base : Nat} {zs : List Nat} (h : Row w g zs) (hb : base ≤ g) {n : Nat} (hn : n ≤ zs.length) (hm : zs.length ≤ 70368744177664) :
    w.ownsRow base 45 1 (.slice (some ⟨g, 0, none⟩) n zs.length) n (cellsU (zs.take n)) := by
  refine ⟨by rw [cellsU_length, List.length_take]; omega, .inr ⟨g, zs.length, (cellsU zs).toArray, rfl, hb, h.blk, hn, by unfold maxLen; omega, by simp [cellsU], by simp [cellsU_take]⟩⟩

structure OwnL (w : World) (base : Nat) (v : Value) (n L : Nat) : Prop where
  form : ∃ A c zs, v = .slice A zs.length c ∧ Limbs zs ∧ val zs = n ∧ zs.length ≤ L ∧ zs.length ≤ c ∧ c ≤ 9223372036854775807 ∧ w.ownsRow base 45 1 (.slice A zs.length c) zs.length (cellsU zs)
theorem OwnL.below {w w' : World} {base : Nat} {v : Value} {n L : Nat} (h : OwnL w base v n L) (hb : Below w.heap.size w w') : OwnL w' base v n L := by
  obtain ⟨A, c, zs, h1, h2, h3, h4, h5, h6, h7⟩ := h.form
  exact ⟨A, c, zs, h1, h2, h3, h4, h5, h6, own_below h7 hb⟩
theorem OwnL.alloc {w : World} {base : Nat} {v : Value} {n L : Nat} (h : OwnL w base v n L) (o : Obj) : OwnL (w.alloc o) base v n L := h.below ((Below.refl _ _).alloc (Nat.le_refl _) o)
theorem OwnL.base {w : World} {b b' : Nat} {v : Value} {n L : Nat} (h : OwnL w b v n L) (hb : b' ≤ b) : OwnL w b' v n L := by
  obtain ⟨A, c, zs, h1, h2, h3, h4, h5, h6, h7⟩ := h.form
  refine ⟨A, c, zs, h1, h2, h3, h4, h5, h6, h7.1, ?_⟩
  rcases h7.2 with h8 | ⟨g, cap, cur, k1, k2, k3⟩
  · exact .inl h8
  · exact .inr ⟨g, cap, cur, k1, Nat.le_trans hb k2, k3⟩
theorem Row.ownL {w : World} {g base : Nat} {zs : List Nat} (h : Row w g zs) (hb : base ≤ g) (hm : zs.length ≤ 70368744177664) (hz : Limbs zs) : OwnL w base (.slice (some ⟨g, 0, none⟩) zs.length zs.length) (val zs) zs.length := by
  have := h.own hb (Nat.le_refl _) hm
  rw [List.take_length] at this
  exact ⟨_, _, zs, rfl, hz, rfl, Nat.le_refl _, Nat.le_refl _, by omega, this⟩
theorem Row.ownL_cut {w : World} {g base : Nat} {zs : List Nat} (h : Row w g zs) (hb : base ≤ g) (hm : zs.length ≤ 70368744177664) (hz : Limbs zs) : OwnL w base (.slice (some ⟨g, 0, none⟩) (natL (val zs)).length zs.length) (val zs) zs.length := by
  have hle := natL_val_le hz
  have := h.own hb hle hm
  rw [← natL_take hz] at this
  exact ⟨_, _, natL (val zs), rfl, limbs_natL _, val_natL _, hle, hle, by omega, this⟩
theorem Row.reads {w : World} {g : Nat} {zs : List Nat} (h : Row w g zs) : ReadsU w w.heap.size (some ⟨g, 0, none⟩) zs := by
  refine ⟨by rw [cellsU_length, Nat.mul_one], fun _ => ⟨⟨g, 0, none⟩, rfl, h.lt, fun j u hu => ?_⟩⟩
  have hj : j < zs.length := by
    have := (List.getElem?_eq_some_iff.1 hu).1
    rwa [cellsU_length] at this
  rw [cellsU_get hj] at hu
  have e : (⟨g, 0, none⟩ : Addr).add j = ⟨g, j, none⟩ := by unfold Addr.add; split <;> simp_all
  rw [e, ← hu]
  exact h.cell hj
theorem OwnL.raw {w : World} {base : Nat} {A : Option Addr} {c k n L : Nat} (h : OwnL w base (.slice A k c) n L) : ∃ zs, k = zs.length ∧ val zs = n ∧ zs.length ≤ L ∧ Raw w A c zs ∧ w.ownsRow base 45 1 (.slice A zs.length c) zs.length (cellsU zs) := by
  obtain ⟨A', c', zs, h1, h2, h3, h4, h5, h6, h7⟩ := h.form
  injection h1 with a1 a2 a3
  subst a1 a2 a3
  exact ⟨zs, rfl, h3, h4, ⟨h2, h5, h6, Reads.of_own h7⟩, h7⟩
def RetL (base : Nat) (w : World) (n L : Nat) (e : Ending) (w' : World) : Prop := ∃ v, e = .returned v ∧ OwnL w' base v n L ∧ Below w.heap.size w w'

theorem exact_signed_own (neg : Bool) (v : Value) (n L base : Nat) (w : World) (h : OwnL w base v n L) :
    Calls Tryd.prog 33 #[.bool neg, v] w (RetInt base w (if neg then -(n : Int) else n)) := by
  obtain ⟨A, c, zs, rfl, h2, h3, h4, h5, h6, h7⟩ := h.form
  have hr : Raw w A c zs := ⟨h2, h5, h6, Reads.of_own h7⟩
  subst h3
  by_cases h0 : val zs = 0
  · refine (exact_signed_nought neg A c zs w hr h0).mono ?_
    rintro e w' ⟨rfl, hb⟩
    rw [h0]
    exact ⟨_, rfl, by cases neg <;> exact IntOwn.nought _ _, hb⟩
  · refine (exact_signed_more neg A c zs w hr h0).mono ?_
    rintro e w' ⟨rfl, hb⟩
    exact ⟨_, rfl, IntOwn.signed h2 (own_below h7 hb) h5 h6 rfl h0, hb⟩
theorem set_take_more {zs : List Nat} {k d : Nat} (h : k < zs.length) : (zs.set k d).take (k + 1) = zs.take k ++ [d] := by
  rw [List.take_succ_eq_append_getElem (by simpa using h), List.take_set_of_le (Nat.le_refl _)]
  simp

structure OwnN (w : World) (base : Nat) (v : Value) (n : Nat) : Prop where
  form : ∃ A c, v = .slice A (natL n).length c ∧ (natL n).length ≤ c ∧ c ≤ 9223372036854775807 ∧ w.ownsRow base 45 1 (.slice A (natL n).length c) (natL n).length (cellsU (natL n))
theorem OwnN.below {w w' : World} {base n : Nat} {v : Value} (h : OwnN w base v n) (hb : Below w.heap.size w w') : OwnN w' base v n := by
  obtain ⟨A, c, h1, h2, h3, h4⟩ := h.form
  exact ⟨A, c, h1, h2, h3, own_below h4 hb⟩
theorem OwnN.base {w : World} {b b' n : Nat} {v : Value} (h : OwnN w b v n) (hb : b' ≤ b) : OwnN w b' v n := by
  obtain ⟨A, c, h1, h2, h3, h4⟩ := h.form
  refine ⟨A, c, h1, h2, h3, h4.1, ?_⟩
  rcases h4.2 with h8 | ⟨g, cap, cur, k1, k2, k3⟩
  · exact .inl h8
  · exact .inr ⟨g, cap, cur, k1, Nat.le_trans hb k2, k3⟩
theorem OwnN.raw {w : World} {base n : Nat} {v : Value} (h : OwnN w base v n) : ∃ A c, v = .slice A (natL n).length c ∧ Raw w A c (natL n) := by
  obtain ⟨A, c, h1, h2, h3, h4⟩ := h.form
  exact ⟨A, c, h1, limbs_natL _, h2, h3, Reads.of_own h4⟩
theorem OwnN.ownL {w : World} {base n L : Nat} {v : Value} (h : OwnN w base v n) (hL : (natL n).length ≤ L) : OwnL w base v n L := by
  obtain ⟨A, c, h1, h2, h3, h4⟩ := h.form
  exact ⟨A, c, natL n, h1, limbs_natL _, val_natL _, hL, h2, h3, h4⟩
theorem natL_mono {a b : Nat} (h : a ≤ b) : (natL a).length ≤ (natL b).length := by
  rw [natL_length_le]
  refine Nat.lt_of_le_of_lt h ?_
  have := val_lt (limbs_natL b)
  rwa [val_natL] at this
def RetN (base : Nat) (w : World) (n : Nat) (e : Ending) (w' : World) : Prop := ∃ v, e = .returned v ∧ OwnN w' base v n ∧ Below w.heap.size w w'
/- add and sub of the references: what they count. (Written by wip/exact/genrefadd.py.) -/

theorem OwnL.cut {w : World} {base : Nat} {A : Option Addr} {c : Nat} {zs : List Nat} {L : Nat} (hz : Limbs zs) (hc : zs.length ≤ c) (hm : c ≤ 9223372036854775807) (h : w.ownsRow base 45 1 (.slice A zs.length c) zs.length (cellsU zs)) (hL : zs.length ≤ L) : OwnL w base (.slice A (natL (val zs)).length c) (val zs) L := by
  have hle := natL_val_le hz
  refine ⟨A, c, natL (val zs), rfl, limbs_natL _, val_natL _, by omega, by omega, hm, ?_⟩
  rw [natL_take hz, List.length_take, Nat.min_eq_left hle]
  rw [cellsU_take]
  refine ⟨?_, ?_⟩
  · rw [List.length_take, cellsU_length]; omega
  · rcases h.2 with ⟨h1, h2⟩ | ⟨g, cap, cur, h1, h2, h3, h4, h5, h6, h7⟩
    · injection h1 with a1 a2 a3
      have : (natL (val zs)).length = 0 := by omega
      rw [this, a1, a3]
      exact .inl ⟨rfl, rfl⟩
    · refine .inr ⟨g, cap, cur, by injection h1 with a1 a2 a3; rw [a1, a3], h2, h3, by omega, h5, h6, ?_⟩
      rw [← h7, List.take_take, Nat.mul_one, Nat.mul_one, Nat.min_eq_left hle]
/- A block whose first cells are limbs; slices.Clone of limbs. -/

theorem Blk.stays {w w' : World} {g : Nat} {t : TypeId} {cs : Array Value} {row : Option Nat} (h : Blk w g t cs) (hg : w.grownBy w' row) (hn : some g ≠ row) : Blk w' g t cs := (hg.block g h.lt hn).trans h

structure Front (w : World) (g cap : Nat) (zs : List Nat) : Prop where
  ex : ∃ rest : List Value, zs.length + rest.length = cap ∧ Blk w g 45 (cellsU zs ++ rest).toArray
theorem Row.front {w : World} {g : Nat} {zs : List Nat} (h : Row w g zs) : Front w g zs.length zs := ⟨[], rfl, by simpa using h.blk⟩
theorem Front.lt {w : World} {g cap : Nat} {zs : List Nat} (h : Front w g cap zs) : g < w.heap.size := by
  obtain ⟨rest, -, hb⟩ := h.ex
  exact hb.lt
theorem Front.fits {w : World} {g cap : Nat} {zs : List Nat} (h : Front w g cap zs) : zs.length ≤ cap := by
  obtain ⟨rest, he, -⟩ := h.ex
  omega
theorem Front.cell {w : World} {g cap : Nat} {zs : List Nat} (h : Front w g cap zs) {k : Nat} (hk : k < zs.length) : w.cell? ⟨g, k, none⟩ = some (.int .u32 zs[k]) := by
  obtain ⟨rest, -, hb⟩ := h.ex
  rw [hb.cell, List.getElem?_toArray, List.getElem?_append_left (by rw [cellsU_length]; exact hk), cellsU_get hk]
theorem Front.frozen {w : World} {g cap : Nat} {zs : List Nat} (h : Front w g cap zs) (k : Nat) : w.frozen? ⟨g, k, none⟩ = false := by
  obtain ⟨rest, -, hb⟩ := h.ex
  exact hb.frozen k
theorem Front.set {w : World} {g cap : Nat} {zs : List Nat} (h : Front w g cap zs) {k : Nat} (hk : k < zs.length) (d : Nat) : Front (w.setCell ⟨g, k, none⟩ (.int .u32 (d : Int))) g cap (zs.set k d) := by
  obtain ⟨rest, he, hb⟩ := h.ex
  refine ⟨rest, by simpa using he, ?_⟩
  have e : (cellsU (zs.set k d) ++ rest).toArray = (cellsU zs ++ rest).toArray.setIfInBounds k (.int .u32 (d : Int)) := by
    rw [List.setIfInBounds_toArray, List.set_append_left _ _ (by rw [cellsU_length]; exact hk)]
    simp [cellsU, List.map_set]
  rw [e]
  exact hb.set_ k _
theorem Front.stays {w w' : World} {g cap : Nat} {zs : List Nat} {row : Option Nat} (h : Front w g cap zs) (hg : w.grownBy w' row) (hn : some g ≠ row) : Front w' g cap zs := by
  obtain ⟨rest, he, hb⟩ := h.ex
  exact ⟨rest, he, hb.stays hg hn⟩
theorem Front.below {w w' : World} {g cap : Nat} {zs : List Nat} (h : Front w g cap zs) (hb : Below w.heap.size w w') : Front w' g cap zs := by
  obtain ⟨rest, he, hk⟩ := h.ex
  exact ⟨rest, he, hk.below hb hk.lt⟩
theorem Front.alloc {w : World} {g cap : Nat} {zs : List Nat} (h : Front w g cap zs) (o : Obj) : Front (w.alloc o) g cap zs := h.below ((Below.refl _ _).alloc (Nat.le_refl _) o)
theorem Front.cut {w : World} {g cap : Nat} {zs : List Nat} (h : Front w g cap zs) (n : Nat) : Front w g cap (zs.take n) := by
  obtain ⟨rest, he, hb⟩ := h.ex
  refine ⟨cellsU (zs.drop n) ++ rest, by simp [cellsU_length]; omega, ?_⟩
  rw [← List.append_assoc, show cellsU (zs.take n) ++ cellsU (zs.drop n) = cellsU zs by rw [cellsU, cellsU, ← List.map_append, List.take_append_drop]; rfl]
  exact hb
theorem Front.own {w : World} {g cap base : Nat} {zs : List Nat} (h : Front w g cap zs) (hb : base ≤ g) {n : Nat} (hn : n ≤ zs.length) (hm : cap ≤ 9223372036854775807) :
    w.ownsRow base 45 1 (.slice (some ⟨g, 0, none⟩) n cap) n (cellsU (zs.take n)) := by
  obtain ⟨rest, he, hk⟩ := h.ex
  refine ⟨by rw [cellsU_length, List.length_take]; omega, .inr ⟨g, cap, (cellsU zs ++ rest).toArray, rfl, hb, hk, by omega, by unfold maxLen; omega, by simp [cellsU]; omega, ?_⟩⟩
  rw [Nat.mul_one, cellsU_take, List.take_append_of_le_length (by rw [cellsU_length]; exact hn)]
theorem Front.ownL {w : World} {g cap base : Nat} {zs : List Nat} (h : Front w g cap zs) (hb : base ≤ g) (hm : cap ≤ 9223372036854775807) (hz : Limbs zs) : OwnL w base (.slice (some ⟨g, 0, none⟩) zs.length cap) (val zs) zs.length := by
  have := h.own hb (Nat.le_refl _) hm
  rw [List.take_length] at this
  exact ⟨_, _, zs, rfl, hz, rfl, Nat.le_refl _, h.fits, hm, this⟩
theorem Front.reads {w : World} {g cap : Nat} {zs : List Nat} (h : Front w g cap zs) : ReadsU w w.heap.size (some ⟨g, 0, none⟩) zs := by
  refine ⟨by rw [cellsU_length, Nat.mul_one], fun _ => ⟨⟨g, 0, none⟩, rfl, h.lt, fun j u hu => ?_⟩⟩
  have hj : j < zs.length := by
    have := (List.getElem?_eq_some_iff.1 hu).1
    rwa [cellsU_length] at this
  rw [cellsU_get hj] at hu
  have e : (⟨g, 0, none⟩ : Addr).add j = ⟨g, j, none⟩ := by unfold Addr.add; split <;> simp_all
  rw [e, ← hu]
  exact h.cell hj
theorem Front.raw {w : World} {g cap : Nat} {zs : List Nat} (h : Front w g cap zs) (hm : cap ≤ 9223372036854775807) (hz : Limbs zs) : Raw w (some ⟨g, 0, none⟩) cap zs := ⟨hz, h.fits, hm, h.reads⟩

structure OwnX (w : World) (base : Nat) (v : Value) (zs : List Nat) : Prop where
  limbs : Limbs zs
  form : ∃ A c, v = .slice A zs.length c ∧ zs.length ≤ c ∧ c ≤ 9223372036854775807 ∧ w.ownsRow base 45 1 (.slice A zs.length c) zs.length (cellsU zs)
theorem OwnX.ownL {w : World} {base : Nat} {v : Value} {zs : List Nat} (h : OwnX w base v zs) : OwnL w base v (val zs) zs.length := by
  obtain ⟨A, c, h1, h2, h3, h4⟩ := h.form
  exact ⟨A, c, zs, h1, h.limbs, rfl, Nat.le_refl _, h2, h3, h4⟩
theorem OwnX.front {w : World} {base : Nat} {v : Value} {zs : List Nat} (h : OwnX w base v zs) (h0 : zs ≠ []) : ∃ g cap, v = .slice (some ⟨g, 0, none⟩) zs.length cap ∧ base ≤ g ∧ cap ≤ 9223372036854775807 ∧ Front w g cap zs := by
  obtain ⟨A, c, h1, h2, h3, h4⟩ := h.form
  have hne : zs.length ≠ 0 := fun h => h0 (List.eq_nil_of_length_eq_zero h)
  rcases h4.2 with ⟨k1, k2⟩ | ⟨g, cap, cur, k1, k2, k3, k4, k5, k6, k7⟩
  · exact absurd k2 hne
  · rw [h1, k1]
    refine ⟨g, cap, rfl, k2, by simp only [maxLen] at k5; omega, cur.toList.drop zs.length, ?_, ?_⟩
    · have : cur.toList.length = cap := by rw [Array.length_toList]; omega
      rw [List.length_drop]; omega
    · rw [Nat.mul_one] at k7
      rw [← k7, List.take_append_drop]
      exact k3
theorem OwnX.of_own {w : World} {base : Nat} {v : Value} {zs : List Nat} (hz : Limbs zs) (h : w.ownsRow base 45 1 v zs.length (cellsU zs)) : OwnX w base v zs := by
  rcases h.2 with ⟨rfl, k2⟩ | ⟨g, cap, cur, rfl, k2, k3, k4, k5, k6, k7⟩
  · obtain rfl := List.eq_nil_of_length_eq_zero k2
    exact ⟨hz, none, 0, rfl, Nat.le_refl _, by omega, h⟩
  · exact ⟨hz, _, cap, rfl, k4, by simp only [maxLen] at k5; omega, h⟩
theorem OwnX.below {w w' : World} {base : Nat} {v : Value} {zs : List Nat} (h : OwnX w base v zs) (hb : Below w.heap.size w w') : OwnX w' base v zs := by
  obtain ⟨A, c, h1, h2, h3, h4⟩ := h.form
  exact ⟨h.limbs, A, c, h1, h2, h3, own_below h4 hb⟩

theorem slices_Clone (A : Option Addr) (c : Nat) (xs : List Nat) (hl : xs.length ≤ 1073741824) (w : World) (h : Raw w A c xs) :
    Calls Tryd.prog 38 #[.slice A xs.length c] w fun e w' => ∃ v, e = .returned v ∧ OwnX w' w.heap.size v xs ∧ Below w.heap.size w w' := by
  have qT : ∀ (w : World) (A : Option Addr) (n c : Nat), (binOp .eql 22 (.slice A n c) (.slice none 0 0)).run Tryd.prog w = .ok (.bool A.isNone) w := fun w A n c => Lib.run_eql_slice_nil w _ _ A n c 0 0 Tryd.underlying22
  rcases A with _ | ad
  · have hx : xs = [] := by
      rcases Nat.eq_zero_or_pos xs.length with h0 | h0
      · exact List.eq_nil_of_length_eq_zero h0
      · obtain ⟨ad, e, -⟩ := h.reads.get h0
        cases e
    subst hx
    have hl0 := h.limbs
    clear h
    go_enter Tryd.func38, Tryd.ntmps38
    go_wp2_with fail
    go_ret
    exact ⟨_, rfl, ⟨hl0, none, 0, rfl, Nat.le_refl _, by omega, World.ownsRow_nil _ _ _ _⟩, Below.refl _ _⟩
  · obtain ⟨i0, hi, hz0, hz1, hz2⟩ := info_parts limbInfo
    have hc := h.cap
    have HX := Hd h
    clear h
    go_enter Tryd.func38, Tryd.ntmps38
    go_wp2_with (at_builtin; refine wpList_append_any _ rfl (.tmp 5) (.tmp 6) _ rfl w.heap.size 45 i0 _ 1 4 Tryd.underlying22 hi hz0 hz1 hz2 rfl (by omega) _ 0 _ rfl (World.ownsRow_made w #[] 0 (Nat.le_refl _) (by unfold maxLen; omega) rfl) _ (some ad) xs.length c (cellsU xs) rfl ((HX.out.alloc _).reads) (by intro u hu; simp [cellsU] at hu; obtain ⟨x, -, rfl⟩ := hu; simp [Value.oneCell']) (by unfold maxLen; omega) (by omega) (by simp) ?_; intro v' w' ho' hg' hat')
    go_ret
    refine ⟨_, rfl, OwnX.of_own HX.out.limbs (by simpa using ho'), ?_⟩
    exact below_more (World.ownsRow_made (size := 1) w #[] 0 (Nat.le_refl _) (by unfold maxLen; omega) rfl) ((Below.refl _ _).alloc (Nat.le_refl _) _) (Nat.le_refl _) (by simp) hg'
end Go.Proofs.YtkncbenhfcpgkaaDoor
