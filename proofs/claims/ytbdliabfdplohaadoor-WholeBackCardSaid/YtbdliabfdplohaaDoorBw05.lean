/- Several texts in one: Carry, Row, RefAdd. -/
import Derived.Test.YtbdliabfdplohaaDoorProg
import Derived.WalkKit
import Derived.WalkSpells
import Derived.WalkLawsBesides
import Derived.Lib.Hide
import Derived.Test.YtbdliabfdplohaaDoorBw04
set_option maxRecDepth 100000
set_option maxHeartbeats 8000000
/- math/bits.Add32, Sub32, Div32. -/
namespace Go.Proofs.YtbdliabfdplohaaDoor
open Go.RowKit

theorem two_eq {a b c d : Int} (h1 : a = c) (h2 : b = d) : Ending.returned (.tuple #[.int .u32 a, .int .u32 b]) = .returned (.tuple #[.int .u32 c, .int .u32 d]) := by
  subst h1 h2; rfl

theorem bits_Add32 (x y c : Nat) (hx : x < 4294967296) (hy : y < 4294967296) (hc : c ≤ 1) (w : World) :
    Calls Tryd.prog 88 #[.int .u32 x, .int .u32 y, .int .u32 c] w fun e w' => e = .returned (.tuple #[.int .u32 ((x + y + c) % 4294967296 : Nat), .int .u32 ((x + y + c) / 4294967296 : Nat)]) ∧ w = w' := by
  go_enter Tryd.func88, Tryd.ntmps88
  go_wp2
  go_ret2
  exact ⟨two_eq (by omega) (by omega), rfl⟩

/- Limbs in a block that a call fills; limbs of a call's own; signed over them. -/

structure Row (w : World) (g : Nat) (zs : List Nat) : Prop where
  blk : Blk w g 40 (cellsU zs).toArray
theorem Row.lt {w : World} {g : Nat} {zs : List Nat} (h : Row w g zs) : g < w.heap.size := h.blk.lt
theorem Row.below {w w' : World} {g : Nat} {zs : List Nat} (h : Row w g zs) (hb : Below w.heap.size w w') : Row w' g zs := ⟨h.blk.below hb h.blk.lt⟩
theorem Row.alloc {w : World} {g : Nat} {zs : List Nat} (h : Row w g zs) (o : Obj) : Row (w.alloc o) g zs := ⟨h.blk.alloc o⟩
theorem Row.cell {w : World} {g : Nat} {zs : List Nat} (h : Row w g zs) {k : Nat} (hk : k < zs.length) : w.cell? ⟨g, k, none⟩ = some (.int .u32 zs[k]) := by
  rw [h.blk.cell, List.getElem?_toArray, cellsU_get hk]
theorem Row.frozen {w : World} {g : Nat} {zs : List Nat} (h : Row w g zs) (k : Nat) : w.frozen? ⟨g, k, none⟩ = false := h.blk.frozen k
theorem Row.set {w : World} {g : Nat} {zs : List Nat} (h : Row w g zs) (k d : Nat) : Row (w.setCell ⟨g, k, none⟩ (.int .u32 (d : Int))) g (zs.set k d) := by
  have e : (cellsU (zs.set k d)).toArray = (cellsU zs).toArray.setIfInBounds k (.int .u32 (d : Int)) := by
    simp [cellsU, List.map_set]
  exact ⟨by rw [e]; exact h.blk.set_ k _⟩
theorem Row.made (w : World) (n : Nat) : Row (w.alloc (.cells (madeCells #[.int .u32 0] n) 40)) w.heap.size (List.replicate n 0) := by
  have e : (cellsU (List.replicate n 0)).toArray = madeCells #[.int .u32 0] n := by
    apply Array.ext
    · simp [cellsU, size_madeCells]
    · intro i h1 h2
      have e : i % 1 = 0 := Nat.mod_one i
      simp [cellsU, madeCells, e]
  exact ⟨by rw [e]; exact Blk.new w _ _⟩
theorem Row.own {w : World} {g base : Nat} {zs : List Nat} (h : Row w g zs) (hb : base ≤ g) {n : Nat} (hn : n ≤ zs.length) (hm : zs.length ≤ 70368744177664) :
    w.ownsRow base 40 1 (.slice (some ⟨g, 0, none⟩) n zs.length) n (cellsU (zs.take n)) := by
  refine ⟨by rw [cellsU_length, List.length_take]; omega, .inr ⟨g, zs.length, (cellsU zs).toArray, rfl, hb, h.blk, hn, by unfold maxLen; omega, by simp [cellsU], by simp [cellsU_take]⟩⟩

structure OwnL (w : World) (base : Nat) (v : Value) (n L : Nat) : Prop where
  form : ∃ A c zs, v = .slice A zs.length c ∧ Limbs zs ∧ val zs = n ∧ zs.length ≤ L ∧ zs.length ≤ c ∧ c ≤ 9223372036854775807 ∧ w.ownsRow base 40 1 (.slice A zs.length c) zs.length (cellsU zs)
theorem OwnL.below {w w' : World} {base : Nat} {v : Value} {n L : Nat} (h : OwnL w base v n L) (hb : Below w.heap.size w w') : OwnL w' base v n L := by
  obtain ⟨A, c, zs, h1, h2, h3, h4, h5, h6, h7⟩ := h.form
  exact ⟨A, c, zs, h1, h2, h3, h4, h5, h6, own_below h7 hb⟩
theorem OwnL.alloc {w : World} {base : Nat} {v : Value} {n L : Nat} (h : OwnL w base v n L) (o : Obj) : OwnL (w.alloc o) base v n L := h.below ((Below.refl _ _).alloc (Nat.le_refl _) o)
theorem OwnL.base {w : World} {b b' : Nat} {v : Value} {n L : Nat} (h : OwnL w b v n L) (hb : b' ≤ b) : OwnL w b' v n L := by
  obtain ⟨A, c, zs, h1, h2, h3, h4, h5, h6, h7⟩ := h.form
  refine ⟨A, c, zs, h1, h2, h3, h4, h5, h6, h7.1, ?_⟩
  rcases h7.2 with h8 | ⟨g, cap, cur, k1, k2, k3⟩
  · exact .inl h8
  · exact .inr ⟨g, cap, cur, k1, Nat.le_trans hb k2, k3⟩
theorem Row.ownL {w : World} {g base : Nat} {zs : List Nat} (h : Row w g zs) (hb : base ≤ g) (hm : zs.length ≤ 70368744177664) (hz : Limbs zs) : OwnL w base (.slice (some ⟨g, 0, none⟩) zs.length zs.length) (val zs) zs.length := by
  have := h.own hb (Nat.le_refl _) hm
  rw [List.take_length] at this
  exact ⟨_, _, zs, rfl, hz, rfl, Nat.le_refl _, Nat.le_refl _, by omega, this⟩
theorem Row.reads {w : World} {g : Nat} {zs : List Nat} (h : Row w g zs) : ReadsU w w.heap.size (some ⟨g, 0, none⟩) zs := by
  refine ⟨by rw [cellsU_length, Nat.mul_one], fun _ => ⟨⟨g, 0, none⟩, rfl, h.lt, fun j u hu => ?_⟩⟩
  have hj : j < zs.length := by
    have := (List.getElem?_eq_some_iff.1 hu).1
    rwa [cellsU_length] at this
  rw [cellsU_get hj] at hu
  have e : (⟨g, 0, none⟩ : Addr).add j = ⟨g, j, none⟩ := by unfold Addr.add; split <;> simp_all
  rw [e, ← hu]
  exact h.cell hj
theorem OwnL.raw {w : World} {base : Nat} {A : Option Addr} {c k n L : Nat} (h : OwnL w base (.slice A k c) n L) : ∃ zs, k = zs.length ∧ val zs = n ∧ zs.length ≤ L ∧ Raw w A c zs ∧ w.ownsRow base 40 1 (.slice A zs.length c) zs.length (cellsU zs) := by
  obtain ⟨A', c', zs, h1, h2, h3, h4, h5, h6, h7⟩ := h.form
  injection h1 with a1 a2 a3
  subst a1 a2 a3
  exact ⟨zs, rfl, h3, h4, ⟨h2, h5, h6, Reads.of_own h7⟩, h7⟩
def RetL (base : Nat) (w : World) (n L : Nat) (e : Ending) (w' : World) : Prop := ∃ v, e = .returned v ∧ OwnL w' base v n L ∧ Below w.heap.size w w'

theorem exact_signed_own (neg : Bool) (v : Value) (n L base : Nat) (w : World) (h : OwnL w base v n L) :
    Calls Tryd.prog 39 #[.bool neg, v] w (RetInt base w (if neg then -(n : Int) else n)) := by
  obtain ⟨A, c, zs, rfl, h2, h3, h4, h5, h6, h7⟩ := h.form
  have hr : Raw w A c zs := ⟨h2, h5, h6, Reads.of_own h7⟩
  subst h3
  by_cases h0 : val zs = 0
  · refine (exact_signed_nought neg A c zs w hr h0).mono ?_
    rintro e w' ⟨rfl, hb⟩
    rw [h0]
    exact ⟨_, rfl, by cases neg <;> exact IntOwn.nought _ _, hb⟩
  · refine (exact_signed_more neg A c zs w hr h0).mono ?_
    rintro e w' ⟨rfl, hb⟩
    exact ⟨_, rfl, IntOwn.signed h2 (own_below h7 hb) h5 h6 rfl h0, hb⟩
theorem set_take_more {zs : List Nat} {k d : Nat} (h : k < zs.length) : (zs.set k d).take (k + 1) = zs.take k ++ [d] := by
  rw [List.take_succ_eq_append_getElem (by simpa using h), List.take_set_of_le (Nat.le_refl _)]
  simp

structure OwnN (w : World) (base : Nat) (v : Value) (n : Nat) : Prop where
  form : ∃ A c, v = .slice A (natL n).length c ∧ (natL n).length ≤ c ∧ c ≤ 9223372036854775807 ∧ w.ownsRow base 40 1 (.slice A (natL n).length c) (natL n).length (cellsU (natL n))
theorem OwnN.below {w w' : World} {base n : Nat} {v : Value} (h : OwnN w base v n) (hb : Below w.heap.size w w') : OwnN w' base v n := by
  obtain ⟨A, c, h1, h2, h3, h4⟩ := h.form
  exact ⟨A, c, h1, h2, h3, own_below h4 hb⟩
theorem OwnN.base {w : World} {b b' n : Nat} {v : Value} (h : OwnN w b v n) (hb : b' ≤ b) : OwnN w b' v n := by
  obtain ⟨A, c, h1, h2, h3, h4⟩ := h.form
  refine ⟨A, c, h1, h2, h3, h4.1, ?_⟩
  rcases h4.2 with h8 | ⟨g, cap, cur, k1, k2, k3⟩
  · exact .inl h8
  · exact .inr ⟨g, cap, cur, k1, Nat.le_trans hb k2, k3⟩
theorem OwnN.raw {w : World} {base n : Nat} {v : Value} (h : OwnN w base v n) : ∃ A c, v = .slice A (natL n).length c ∧ Raw w A c (natL n) := by
  obtain ⟨A, c, h1, h2, h3, h4⟩ := h.form
  exact ⟨A, c, h1, limbs_natL _, h2, h3, Reads.of_own h4⟩
theorem OwnN.ownL {w : World} {base n L : Nat} {v : Value} (h : OwnN w base v n) (hL : (natL n).length ≤ L) : OwnL w base v n L := by
  obtain ⟨A, c, h1, h2, h3, h4⟩ := h.form
  exact ⟨A, c, natL n, h1, limbs_natL _, val_natL _, hL, h2, h3, h4⟩
theorem natL_mono {a b : Nat} (h : a ≤ b) : (natL a).length ≤ (natL b).length := by
  rw [natL_length_le]
  refine Nat.lt_of_le_of_lt h ?_
  have := val_lt (limbs_natL b)
  rwa [val_natL] at this
def RetN (base : Nat) (w : World) (n : Nat) (e : Ending) (w' : World) : Prop := ∃ v, e = .returned v ∧ OwnN w' base v n ∧ Below w.heap.size w w'
/- add and sub of the references: what they count. (Written by wip/exact/genrefadd.py.) -/

theorem OwnL.cut {w : World} {base : Nat} {A : Option Addr} {c : Nat} {zs : List Nat} {L : Nat} (hz : Limbs zs) (hc : zs.length ≤ c) (hm : c ≤ 9223372036854775807) (h : w.ownsRow base 40 1 (.slice A zs.length c) zs.length (cellsU zs)) (hL : zs.length ≤ L) : OwnL w base (.slice A (natL (val zs)).length c) (val zs) L := by
  have hle := natL_val_le hz
  refine ⟨A, c, natL (val zs), rfl, limbs_natL _, val_natL _, by omega, by omega, hm, ?_⟩
  rw [natL_take hz, List.length_take, Nat.min_eq_left hle]
  rw [cellsU_take]
  refine ⟨?_, ?_⟩
  · rw [List.length_take, cellsU_length]; omega
  · rcases h.2 with ⟨h1, h2⟩ | ⟨g, cap, cur, h1, h2, h3, h4, h5, h6, h7⟩
    · injection h1 with a1 a2 a3
      have : (natL (val zs)).length = 0 := by omega
      rw [this, a1, a3]
      exact .inl ⟨rfl, rfl⟩
    · refine .inr ⟨g, cap, cur, by injection h1 with a1 a2 a3; rw [a1, a3], h2, h3, by omega, h5, h6, ?_⟩
      rw [← h7, List.take_take, Nat.mul_one, Nat.mul_one, Nat.min_eq_left hle]
end Go.Proofs.YtbdliabfdplohaaDoor
