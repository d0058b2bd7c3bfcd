/- Several texts in one: Row, Add, RefBits, Same. -/
import Derived.Test.YtkncbenhfcpgkaaGreatDoorPu03
import Derived.Test.YtkncbenhfcpgkaaGreatDoorPu01
import Derived.Test.YtkncbenhfcpgkaaGreatDoorPu02
import Derived.Test.YtkncbenhfcpgkaaGreatDoorPuHd
set_option maxRecDepth 100000
set_option maxHeartbeats 8000000
/- Limbs in a block that a call fills; limbs of a call's own; signed over them. -/
namespace Go.Proofs.YtkncbenhfcpgkaaGreatDoor
open Go.RowKit

structure Row (w : World) (g : Nat) (zs : List Nat) : Prop where
  blk : Blk w g 70 (cellsU zs).toArray
theorem Row.lt {w : World} {g : Nat} {zs : List Nat} (h : Row w g zs) : g < w.heap.size := h.blk.lt
theorem Row.below {w w' : World} {g : Nat} {zs : List Nat} (h : Row w g zs) (hb : Below w.heap.size w w') : Row w' g zs := ⟨h.blk.below hb h.blk.lt⟩
theorem Row.alloc {w : World} {g : Nat} {zs : List Nat} (h : Row w g zs) (o : Obj) : Row (w.alloc o) g zs := ⟨h.blk.alloc o⟩
theorem Row.cell {w : World} {g : Nat} {zs : List Nat} (h : Row w g zs) {k : Nat} (hk : k < zs.length) : w.cell? ⟨g, k, none⟩ = some (.int .u32 zs[k]) := by
  rw [h.blk.cell, List.getElem?_toArray, cellsU_get hk]
theorem Row.frozen {w : World} {g : Nat} {zs : List Nat} (h : Row w g zs) (k : Nat) : w.frozen? ⟨g, k, none⟩ = false := h.blk.frozen k
theorem Row.set {w : World} {g : Nat} {zs : List Nat} (h : Row w g zs) (k d : Nat) : Row (w.setCell ⟨g, k, none⟩ (.int .u32 (d : Int))) g (zs.set k d) := by
  have e : (cellsU (zs.set k d)).toArray = (cellsU zs).toArray.setIfInBounds k (.int .u32 (d : Int)) := by
    simp [cellsU, List.map_set]
  exact ⟨by rw [e]; exact h.blk.set_ k _⟩
theorem Row.made (w : World) (n : Nat) : Row (w.alloc (.cells (madeCells #[.int .u32 0] n) 70)) w.heap.size (List.replicate n 0) := by
  have e : (cellsU (List.replicate n 0)).toArray = madeCells #[.int .u32 0] n := by
    apply Array.ext
    · simp [cellsU, size_madeCells]
    · intro i h1 h2
      have e : i % 1 = 0 := Nat.mod_one i
      simp [cellsU, madeCells, e]
  exact ⟨by rw [e]; exact Blk.new w _ _⟩
theorem Row.own {w : World} {g base : Nat} {zs : List Nat} (h : Row w g zs) (hb : base ≤ g) {n : Nat} (hn : n ≤ zs.length) (hm : zs.length ≤ 70368744177664) :
    w.ownsRow base 70 1 (.slice (some ⟨g, 0, none⟩) n zs.length) n (cellsU (zs.take n)) := by
  refine ⟨by rw [cellsU_length, List.length_take]; omega, .inr ⟨g, zs.length, (cellsU zs).toArray, rfl, hb, h.blk, hn, by unfold maxLen; omega, by simp [cellsU], by simp [cellsU_take]⟩⟩

structure OwnL (w : World) (base : Nat) (v : Value) (n L : Nat) : Prop where
  form : ∃ A c zs, v = .slice A zs.length c ∧ Limbs zs ∧ val zs = n ∧ zs.length ≤ L ∧ zs.length ≤ c ∧ c ≤ 9223372036854775807 ∧ w.ownsRow base 70 1 (.slice A zs.length c) zs.length (cellsU zs)
theorem OwnL.below {w w' : World} {base : Nat} {v : Value} {n L : Nat} (h : OwnL w base v n L) (hb : Below w.heap.size w w') : OwnL w' base v n L := by
  obtain ⟨A, c, zs, h1, h2, h3, h4, h5, h6, h7⟩ := h.form
  exact ⟨A, c, zs, h1, h2, h3, h4, h5, h6, own_below h7 hb⟩
theorem OwnL.alloc {w : World} {base : Nat} {v : Value} {n L : Nat} (h : OwnL w base v n L) (o : Obj) : OwnL (w.alloc o) base v n L := h.below ((Below.refl _ _).alloc (Nat.le_refl _) o)
theorem OwnL.base {w : World} {b b' : Nat} {v : Value} {n L : Nat} (h : OwnL w b v n L) (hb : b' ≤ b) : OwnL w b' v n L := by
  obtain ⟨A, c, zs, h1, h2, h3, h4, h5, h6, h7⟩ := h.form
  refine ⟨A, c, zs, h1, h2, h3, h4, h5, h6, h7.1, ?_⟩
  rcases h7.2 with h8 | ⟨g, cap, cur, k1, k2, k3⟩
  · exact .inl h8
  · exact .inr ⟨g, cap, cur, k1, Nat.le_trans hb k2, k3⟩
theorem Row.ownL {w : World} {g base : Nat} {zs : List Nat} (h : Row w g zs) (hb : base ≤ g) (hm : zs.length ≤ 70368744177664) (hz : Limbs zs) : OwnL w base (.slice (some ⟨g, 0, none⟩) zs.length zs.length) (val zs) zs.length := by
  have := h.own hb (Nat.le_refl _) hm
  rw [List.take_length] at this
  exact ⟨_, _, zs, rfl, hz, rfl, Nat.le_refl _, Nat.le_refl _, by omega, this⟩
theorem Row.ownL_cut {w : World} {g base : Nat} {zs : List Nat} (h : Row w g zs) (hb : base ≤ g) (hm : zs.length ≤ 70368744177664) (hz : Limbs zs) : OwnL w base (.slice (some ⟨g, 0, none⟩) (natL (val zs)).length zs.length) (val zs) zs.length := by
  have hle := natL_val_le hz
  have := h.own hb hle hm
  rw [← natL_take hz] at this
  exact ⟨_, _, natL (val zs), rfl, limbs_natL _, val_natL _, hle, hle, by omega, this⟩
theorem Row.reads {w : World} {g : Nat} {zs : List Nat} (h : Row w g zs) : ReadsU w w.heap.size (some ⟨g, 0, none⟩) zs := by
  refine ⟨by rw [cellsU_length, Nat.mul_one], fun _ => ⟨⟨g, 0, none⟩, rfl, h.lt, fun j u hu => ?_⟩⟩
  have hj : j < zs.length := by
    have := (List.getElem?_eq_some_iff.1 hu).1
    rwa [cellsU_length] at this
  rw [cellsU_get hj] at hu
  have e : (⟨g, 0, none⟩ : Addr).add j = ⟨g, j, none⟩ := by unfold Addr.add; split <;> simp_all
  rw [e, ← hu]
  exact h.cell hj
theorem OwnL.raw {w : World} {base : Nat} {A : Option Addr} {c k n L : Nat} (h : OwnL w base (.slice A k c) n L) : ∃ zs, k = zs.length ∧ val zs = n ∧ zs.length ≤ L ∧ Raw w A c zs ∧ w.ownsRow base 70 1 (.slice A zs.length c) zs.length (cellsU zs) := by
  obtain ⟨A', c', zs, h1, h2, h3, h4, h5, h6, h7⟩ := h.form
  injection h1 with a1 a2 a3
  subst a1 a2 a3
  exact ⟨zs, rfl, h3, h4, ⟨h2, h5, h6, Reads.of_own h7⟩, h7⟩
def RetL (base : Nat) (w : World) (n L : Nat) (e : Ending) (w' : World) : Prop := ∃ v, e = .returned v ∧ OwnL w' base v n L ∧ Below w.heap.size w w'

theorem exact_signed_own (neg : Bool) (v : Value) (n L base : Nat) (w : World) (h : OwnL w base v n L) :
    Calls Tryz.prog 112 #[.bool neg, v] w (RetInt base w (if neg then -(n : Int) else n)) := by
  obtain ⟨A, c, zs, rfl, h2, h3, h4, h5, h6, h7⟩ := h.form
  have hr : Raw w A c zs := ⟨h2, h5, h6, Reads.of_own h7⟩
  subst h3
  by_cases h0 : val zs = 0
  · refine (exact_signed_nought neg A c zs w hr h0).mono ?_
    rintro e w' ⟨rfl, hb⟩
    rw [h0]
    exact ⟨_, rfl, by cases neg <;> exact IntOwn.nought _ _, hb⟩
  · refine (exact_signed_more neg A c zs w hr h0).mono ?_
    rintro e w' ⟨rfl, hb⟩
    exact ⟨_, rfl, IntOwn.signed h2 (own_below h7 hb) h5 h6 rfl h0, hb⟩
theorem ref_signed_own (neg : Bool) (v : Value) (n L base : Nat) (w : World) (h : OwnL w base v n L) :
    Calls Tryz.prog 120 #[.bool neg, v] w (RetInt base w (if neg then -(n : Int) else n)) := by
  obtain ⟨A, c, zs, rfl, h2, h3, h4, h5, h6, h7⟩ := h.form
  have hr : Raw w A c zs := ⟨h2, h5, h6, Reads.of_own h7⟩
  subst h3
  by_cases h0 : val zs = 0
  · refine (ref_signed_nought neg A c zs w hr h0).mono ?_
    rintro e w' ⟨rfl, hb⟩
    rw [h0]
    exact ⟨_, rfl, by cases neg <;> exact IntOwn.nought _ _, hb⟩
  · refine (ref_signed_more neg A c zs w hr h0).mono ?_
    rintro e w' ⟨rfl, hb⟩
    exact ⟨_, rfl, IntOwn.signed h2 (own_below h7 hb) h5 h6 rfl h0, hb⟩

theorem set_take_more {zs : List Nat} {k d : Nat} (h : k < zs.length) : (zs.set k d).take (k + 1) = zs.take k ++ [d] := by
  rw [List.take_succ_eq_append_getElem (by simpa using h), List.take_set_of_le (Nat.le_refl _)]
  simp

structure OwnN (w : World) (base : Nat) (v : Value) (n : Nat) : Prop where
  form : ∃ A c, v = .slice A (natL n).length c ∧ (natL n).length ≤ c ∧ c ≤ 9223372036854775807 ∧ w.ownsRow base 70 1 (.slice A (natL n).length c) (natL n).length (cellsU (natL n))
theorem OwnN.of_ownL {w : World} {base n L c : Nat} {A : Option Addr} (h : OwnL w base (.slice A (natL n).length c) n L) : OwnN w base (.slice A (natL n).length c) n := by
  obtain ⟨A', c', zs, h1, h2, h3, h4, h5, h6, h7⟩ := h.form
  injection h1 with a1 a2 a3
  subst a1 a3
  have e : natL n = zs := by
    have := natL_take h2
    rw [h3, a2, List.take_length] at this
    exact this
  refine ⟨_, _, rfl, by omega, h6, ?_⟩
  rw [e]; exact h7
theorem OwnN.below {w w' : World} {base n : Nat} {v : Value} (h : OwnN w base v n) (hb : Below w.heap.size w w') : OwnN w' base v n := by
  obtain ⟨A, c, h1, h2, h3, h4⟩ := h.form
  exact ⟨A, c, h1, h2, h3, own_below h4 hb⟩
theorem OwnN.base {w : World} {b b' n : Nat} {v : Value} (h : OwnN w b v n) (hb : b' ≤ b) : OwnN w b' v n := by
  obtain ⟨A, c, h1, h2, h3, h4⟩ := h.form
  refine ⟨A, c, h1, h2, h3, h4.1, ?_⟩
  rcases h4.2 with h8 | ⟨g, cap, cur, k1, k2, k3⟩
  · exact .inl h8
  · exact .inr ⟨g, cap, cur, k1, Nat.le_trans hb k2, k3⟩
theorem OwnN.nil {w : World} {base : Nat} : OwnN w base (.slice none 0 0) 0 := ⟨none, 0, rfl, Nat.le_refl _, by omega, World.ownsRow_nil _ _ _ _⟩
theorem OwnN.raw {w : World} {base n : Nat} {v : Value} (h : OwnN w base v n) : ∃ A c, v = .slice A (natL n).length c ∧ Raw w A c (natL n) := by
  obtain ⟨A, c, h1, h2, h3, h4⟩ := h.form
  exact ⟨A, c, h1, limbs_natL _, h2, h3, Reads.of_own h4⟩
theorem OwnN.ownL {w : World} {base n L : Nat} {v : Value} (h : OwnN w base v n) (hL : (natL n).length ≤ L) : OwnL w base v n L := by
  obtain ⟨A, c, h1, h2, h3, h4⟩ := h.form
  exact ⟨A, c, natL n, h1, limbs_natL _, val_natL _, hL, h2, h3, h4⟩
theorem OwnN.raw_ {w : World} {base n c : Nat} {A : Option Addr} (h : OwnN w base (.slice A (natL n).length c) n) : Raw w A c (natL n) := by
  obtain ⟨A', c', h1, h2⟩ := h.raw
  injection h1 with a1 a2 a3
  subst a1 a3
  exact h2
theorem natL_mono {a b : Nat} (h : a ≤ b) : (natL a).length ≤ (natL b).length := by
  rw [natL_length_le]
  refine Nat.lt_of_le_of_lt h ?_
  have := val_lt (limbs_natL b)
  rwa [val_natL] at this
def RetN (base : Nat) (w : World) (n : Nat) (e : Ending) (w' : World) : Prop := ∃ v, e = .returned v ∧ OwnN w' base v n ∧ Below w.heap.size w w'
theorem RetN.toL {base n L : Nat} {w w' : World} {e : Ending} (h : RetN base w n e w') (hL : (natL n).length ≤ L) : RetL base w n L e w' := by
  obtain ⟨v, h1, h2, h3⟩ := h
  exact ⟨v, h1, h2.ownL hL, h3⟩
/- add and sub of package exact: what they count. (Written by wip/exact/genadd.py.) -/

theorem exact_add_ge (A B : Option Addr) (c d : Nat) (xs ys : List Nat) (hle : ys.length ≤ xs.length) (hl : xs.length ≤ 1073741824) (w : World) (h : Raw w A c xs) (g : Raw w B d ys) :
    Calls Tryz.prog 113 #[.slice A xs.length c, .slice B ys.length d] w (RetL w.heap.size w (val xs + val ys) (xs.length + 1)) := by
  have HX := Hd h
  have HY := Hd g
  have hc := h.cap
  have hm := h.most
  have hd := g.cap
  have hn := g.most
  have hcond : decide (xs.length < ys.length) = false := by simp; omega
  clear h g
  obtain ⟨i0, hi, hz0, hz1, hz2⟩ := info_parts limbInfo
  have hmk : ∀ W : World, (Instr.makeSlice 22 (.int .i64 ((xs.length : Int) + 1)) (.int .i64 ((xs.length : Int) + 1))).run Tryz.prog W = .ok (.slice (some ⟨W.heap.size, 0, none⟩) (xs.length + 1) (xs.length + 1)) (W.alloc (.cells (madeCells #[.int .u32 0] (xs.length + 1)) 70)) := fun W => by
    have h := run_make_rowN (P := Tryz.prog) 22 70 i0 _ Tryz.underlying22 hi hz0 .i64 .i64 (xs.length + 1) (xs.length + 1) (by omega) (by rw [hz2]; omega) (by omega) W
    rw [show ((xs.length + 1 : Nat) : Int) = (xs.length : Int) + 1 by omega, hz1, Nat.mul_one] at h
    exact h
  have I0 : ∃ zs, zs.length = xs.length + 1 ∧ Limbs zs ∧ Row (w.alloc (.cells (madeCells #[.int .u32 0] (xs.length + 1)) 70)) w.heap.size zs ∧ Below w.heap.size w (w.alloc (.cells (madeCells #[.int .u32 0] (xs.length + 1)) 70)) ∧ val (zs.take 0) + 4294967296 ^ 0 * 0 = val (xs.take 0) + val (ys.take 0) :=
    ⟨_, by simp, limbs_noughts _, Row.made w _, (Below.refl _ _).alloc (Nat.le_refl _) _, rfl⟩
  have H0 := Hd I0
  clear I0
  go_enter Tryz.func113, Tryz.ntmps113
  go_wp2_with fail
  clear hmk
  go_loopw [6, 22] (fun t s wr => ∃ i k : Nat, s = .int .i64 i ∧ t = .int .u32 k ∧ k ≤ 1 ∧ i ≤ xs.length ∧ Hid (∃ zs, zs.length = xs.length + 1 ∧ Limbs zs ∧ Row wr w.heap.size zs ∧ Below w.heap.size w wr ∧ val (zs.take i) + 4294967296 ^ i * k = val (xs.take i) + val (ys.take i))) (fun _ s _ => xs.length - (intOf s).toNat)
  case atStart => exact ⟨0, 0, rfl, rfl, by omega, Nat.zero_le _, H0⟩
  case round =>
    obtain ⟨i, k, rfl, rfl, hk, hi', HR⟩ := hrel
    clear H0
    obtain ⟨zs, hzl, hz, hrow, hb, hv⟩ := HR.out
    have HV := Hd hv
    have HZ := Hd hz
    clear HR hv hz
    by_cases hlt : i < xs.length
    · have a0 : (0 : Int) ≤ (i : Int) := by omega
      have a1 : (i : Int) < (xs.length : Int) := by omega
      have a2 : (i : Int) < (xs.length : Int) + 1 := by omega
      have fz := hrow.frozen i
      have hcell := hrow.cell (k := i) (by omega)
      obtain ⟨ad, rfl, hbl, hx⟩ := (HX.out.below hb).reads.get hlt
      have hbx := Hd (limbs_get HX.out.limbs hlt)
      have step : ∀ y : Nat, y = at0 ys i → y < 4294967296 → ∃ zs', zs'.length = xs.length + 1 ∧ Limbs zs' ∧ Row (wr.setCell ⟨w.heap.size, i, none⟩ (.int .u32 (((xs[i] + y + k) % 4294967296 : Nat) : Int))) w.heap.size zs' ∧ Below w.heap.size w (wr.setCell ⟨w.heap.size, i, none⟩ (.int .u32 (((xs[i] + y + k) % 4294967296 : Nat) : Int))) ∧ val (zs'.take (i + 1)) + 4294967296 ^ (i + 1) * ((xs[i] + y + k) / 4294967296) = val (xs.take (i + 1)) + val (ys.take (i + 1)) := fun y hy hy2 =>
        ⟨zs.set i _, by simp [hzl], limbs_set HZ.out (Nat.mod_lt _ (by omega)), hrow.set i _, hb.setCell (p := ⟨w.heap.size, i, none⟩) (Nat.le_refl _) _, by
          rw [set_take_more (by omega), add_step (zs := zs.take i) (k := i) (by rw [List.length_take]; omega) (xs[i] + y + k) HV.out (xs[i] + y) rfl, val_take_more hlt, val_take_at0 ys i, ← hy, Nat.mul_add]
          omega⟩
      have HS := Hd step
      have hq : k ≤ 1 := hk
      clear step
      generalize zs[i] = zi at hcell
      generalize hxe : xs[i] = x at hx hbx HS
      clear hxe
      by_cases hy : i < ys.length
      · obtain ⟨bd, rfl, hbl2, hy'⟩ := (HY.out.below hb).reads.get hy
        have b1 : (i : Int) < (ys.length : Int) := by omega
        have hby := Hd (limbs_get HY.out.limbs hy)
        have S := Hd (HS.out ys[i] (at0_lt hy).symm (limbs_get HY.out.limbs hy))
        clear HS
        generalize hye : ys[i] = y at hy' hby S
        clear hye
        have C := Hd (fun V => bits_Add32 x y k hbx.out hby.out hq V)
        have hq2 : (x + y + k) / 4294967296 ≤ 1 := by have := hbx.out; have := hby.out; omega
        generalize (x + y + k) / 4294967296 = cc at C S hq2
        generalize (x + y + k) % 4294967296 = dd at C S
        clear hbl hbl2
        go_wp2_with (first | (go_at_call 183; with_reducible refine (C.out _).mono ?_; rintro e w' ⟨rfl, rfl⟩))
        go_roundw
        case rel => exact ⟨i + 1, cc, by go_num, rfl, hq2, hlt, S⟩
        case measure => simp [intOf]; omega
      · have b1 : (ys.length : Int) ≤ (i : Int) := by omega
        have S := Hd (HS.out 0 (at0_ge (by omega)).symm (by omega))
        clear HS
        have C := Hd (fun V => bits_Add32_0 x k hbx.out hq V)
        have hq2 : (x + 0 + k) / 4294967296 ≤ 1 := by have := hbx.out; omega
        generalize (x + 0 + k) / 4294967296 = cc at C S hq2
        generalize (x + 0 + k) % 4294967296 = dd at C S
        clear hbl
        go_wp2_with (first | (go_at_call 183; with_reducible refine (C.out _).mono ?_; rintro e w' ⟨rfl, rfl⟩))
        go_roundw
        case rel => exact ⟨i + 1, cc, by go_num, rfl, hq2, hlt, S⟩
        case measure => simp [intOf]; omega
    · obtain rfl : i = xs.length := by omega
      have fz := hrow.frozen xs.length
      have hcell := hrow.cell (k := xs.length) (by omega)
      generalize zs[xs.length] = zi at hcell
      have a0 : (0 : Int) ≤ (xs.length : Int) := by omega
      have a2 : (xs.length : Int) < (xs.length : Int) + 1 := by omega
      have hrow2 := hrow.set xs.length k
      have hb2 := hb.setCell (p := ⟨w.heap.size, xs.length, none⟩) (Nat.le_refl _) (.int .u32 (k : Int))
      have hval : val (zs.set xs.length k) = val xs + val ys := by
        have e := set_take_more (zs := zs) (k := xs.length) (d := k) (by omega)
        rw [List.take_of_length_le (by simp; omega)] at e
        have e2 := HV.out
        rw [val_take_all (xs := xs) (k := xs.length) (Nat.le_refl _), val_take_all (xs := ys) (k := xs.length) (by omega)] at e2
        rw [e, val_snoc, List.length_take, Nat.min_eq_left (by omega)]
        exact e2
      have hown := hrow2.ownL (base := w.heap.size) (Nat.le_refl _) (by simp; omega) (limbs_set HZ.out (by omega))
      rw [hval, List.length_set, hzl] at hown
      have HO := Hd hown
      have HB := Hd hb2
      clear hown hb2 hval hrow2 HV HZ HX HY
      go_wp2_with fail
      go_ret
      exact ⟨_, rfl, HO.out, HB.out⟩

theorem exact_add_lt (A B : Option Addr) (c d : Nat) (xs ys : List Nat) (hle : xs.length < ys.length) (hl : ys.length ≤ 1073741824) (w : World) (h : Raw w A c xs) (g : Raw w B d ys) :
    Calls Tryz.prog 113 #[.slice A xs.length c, .slice B ys.length d] w (RetL w.heap.size w (val ys + val xs) (ys.length + 1)) := by
  have HX := Hd g
  have HY := Hd h
  have hc := h.cap
  have hm := h.most
  have hd := g.cap
  have hn := g.most
  have hcond : decide (xs.length < ys.length) = true := by simp; omega
  clear h g
  obtain ⟨i0, hi, hz0, hz1, hz2⟩ := info_parts limbInfo
  have hmk : ∀ W : World, (Instr.makeSlice 22 (.int .i64 ((ys.length : Int) + 1)) (.int .i64 ((ys.length : Int) + 1))).run Tryz.prog W = .ok (.slice (some ⟨W.heap.size, 0, none⟩) (ys.length + 1) (ys.length + 1)) (W.alloc (.cells (madeCells #[.int .u32 0] (ys.length + 1)) 70)) := fun W => by
    have h := run_make_rowN (P := Tryz.prog) 22 70 i0 _ Tryz.underlying22 hi hz0 .i64 .i64 (ys.length + 1) (ys.length + 1) (by omega) (by rw [hz2]; omega) (by omega) W
    rw [show ((ys.length + 1 : Nat) : Int) = (ys.length : Int) + 1 by omega, hz1, Nat.mul_one] at h
    exact h
  have I0 : ∃ zs, zs.length = ys.length + 1 ∧ Limbs zs ∧ Row (w.alloc (.cells (madeCells #[.int .u32 0] (ys.length + 1)) 70)) w.heap.size zs ∧ Below w.heap.size w (w.alloc (.cells (madeCells #[.int .u32 0] (ys.length + 1)) 70)) ∧ val (zs.take 0) + 4294967296 ^ 0 * 0 = val (ys.take 0) + val (xs.take 0) :=
    ⟨_, by simp, limbs_noughts _, Row.made w _, (Below.refl _ _).alloc (Nat.le_refl _) _, rfl⟩
  have H0 := Hd I0
  clear I0
  go_enter Tryz.func113, Tryz.ntmps113
  go_wp2_with fail
  clear hmk
  go_loopw [6, 22] (fun t s wr => ∃ i k : Nat, s = .int .i64 i ∧ t = .int .u32 k ∧ k ≤ 1 ∧ i ≤ ys.length ∧ Hid (∃ zs, zs.length = ys.length + 1 ∧ Limbs zs ∧ Row wr w.heap.size zs ∧ Below w.heap.size w wr ∧ val (zs.take i) + 4294967296 ^ i * k = val (ys.take i) + val (xs.take i))) (fun _ s _ => ys.length - (intOf s).toNat)
  case atStart => exact ⟨0, 0, rfl, rfl, by omega, Nat.zero_le _, H0⟩
  case round =>
    obtain ⟨i, k, rfl, rfl, hk, hi', HR⟩ := hrel
    clear H0
    obtain ⟨zs, hzl, hz, hrow, hb, hv⟩ := HR.out
    have HV := Hd hv
    have HZ := Hd hz
    clear HR hv hz
    by_cases hlt : i < ys.length
    · have a0 : (0 : Int) ≤ (i : Int) := by omega
      have a1 : (i : Int) < (ys.length : Int) := by omega
      have a2 : (i : Int) < (ys.length : Int) + 1 := by omega
      have fz := hrow.frozen i
      have hcell := hrow.cell (k := i) (by omega)
      obtain ⟨ad, rfl, hbl, hx⟩ := (HX.out.below hb).reads.get hlt
      have hbx := Hd (limbs_get HX.out.limbs hlt)
      have step : ∀ y : Nat, y = at0 xs i → y < 4294967296 → ∃ zs', zs'.length = ys.length + 1 ∧ Limbs zs' ∧ Row (wr.setCell ⟨w.heap.size, i, none⟩ (.int .u32 (((ys[i] + y + k) % 4294967296 : Nat) : Int))) w.heap.size zs' ∧ Below w.heap.size w (wr.setCell ⟨w.heap.size, i, none⟩ (.int .u32 (((ys[i] + y + k) % 4294967296 : Nat) : Int))) ∧ val (zs'.take (i + 1)) + 4294967296 ^ (i + 1) * ((ys[i] + y + k) / 4294967296) = val (ys.take (i + 1)) + val (xs.take (i + 1)) := fun y hy hy2 =>
        ⟨zs.set i _, by simp [hzl], limbs_set HZ.out (Nat.mod_lt _ (by omega)), hrow.set i _, hb.setCell (p := ⟨w.heap.size, i, none⟩) (Nat.le_refl _) _, by
          rw [set_take_more (by omega), add_step (zs := zs.take i) (k := i) (by rw [List.length_take]; omega) (ys[i] + y + k) HV.out (ys[i] + y) rfl, val_take_more hlt, val_take_at0 xs i, ← hy, Nat.mul_add]
          omega⟩
      have HS := Hd step
      have hq : k ≤ 1 := hk
      clear step
      generalize zs[i] = zi at hcell
      generalize hxe : ys[i] = x at hx hbx HS
      clear hxe
      by_cases hy : i < xs.length
      · obtain ⟨bd, rfl, hbl2, hy'⟩ := (HY.out.below hb).reads.get hy
        have b1 : (i : Int) < (xs.length : Int) := by omega
        have hby := Hd (limbs_get HY.out.limbs hy)
        have S := Hd (HS.out xs[i] (at0_lt hy).symm (limbs_get HY.out.limbs hy))
        clear HS
        generalize hye : xs[i] = y at hy' hby S
        clear hye
        have C := Hd (fun V => bits_Add32 x y k hbx.out hby.out hq V)
        have hq2 : (x + y + k) / 4294967296 ≤ 1 := by have := hbx.out; have := hby.out; omega
        generalize (x + y + k) / 4294967296 = cc at C S hq2
        generalize (x + y + k) % 4294967296 = dd at C S
        clear hbl hbl2
        go_wp2_with (first | (go_at_call 183; with_reducible refine (C.out _).mono ?_; rintro e w' ⟨rfl, rfl⟩))
        go_roundw
        case rel => exact ⟨i + 1, cc, by go_num, rfl, hq2, hlt, S⟩
        case measure => simp [intOf]; omega
      · have b1 : (xs.length : Int) ≤ (i : Int) := by omega
        have S := Hd (HS.out 0 (at0_ge (by omega)).symm (by omega))
        clear HS
        have C := Hd (fun V => bits_Add32_0 x k hbx.out hq V)
        have hq2 : (x + 0 + k) / 4294967296 ≤ 1 := by have := hbx.out; omega
        generalize (x + 0 + k) / 4294967296 = cc at C S hq2
        generalize (x + 0 + k) % 4294967296 = dd at C S
        clear hbl
        go_wp2_with (first | (go_at_call 183; with_reducible refine (C.out _).mono ?_; rintro e w' ⟨rfl, rfl⟩))
        go_roundw
        case rel => exact ⟨i + 1, cc, by go_num, rfl, hq2, hlt, S⟩
        case measure => simp [intOf]; omega
    · obtain rfl : i = ys.length := by omega
      have fz := hrow.frozen ys.length
      have hcell := hrow.cell (k := ys.length) (by omega)
      generalize zs[ys.length] = zi at hcell
      have a0 : (0 : Int) ≤ (ys.length : Int) := by omega
      have a2 : (ys.length : Int) < (ys.length : Int) + 1 := by omega
      have hrow2 := hrow.set ys.length k
      have hb2 := hb.setCell (p := ⟨w.heap.size, ys.length, none⟩) (Nat.le_refl _) (.int .u32 (k : Int))
      have hval : val (zs.set ys.length k) = val ys + val xs := by
        have e := set_take_more (zs := zs) (k := ys.length) (d := k) (by omega)
        rw [List.take_of_length_le (by simp; omega)] at e
        have e2 := HV.out
        rw [val_take_all (xs := ys) (k := ys.length) (Nat.le_refl _), val_take_all (xs := xs) (k := ys.length) (by omega)] at e2
        rw [e, val_snoc, List.length_take, Nat.min_eq_left (by omega)]
        exact e2
      have hown := hrow2.ownL (base := w.heap.size) (Nat.le_refl _) (by simp; omega) (limbs_set HZ.out (by omega))
      rw [hval, List.length_set, hzl] at hown
      have HO := Hd hown
      have HB := Hd hb2
      clear hown hb2 hval hrow2 HV HZ HX HY
      go_wp2_with fail
      go_ret
      exact ⟨_, rfl, HO.out, HB.out⟩

theorem exact_add (A B : Option Addr) (c d : Nat) (xs ys : List Nat) (hx : xs.length ≤ 1073741824) (hy : ys.length ≤ 1073741824) (w : World) (h : Raw w A c xs) (g : Raw w B d ys) :
    Calls Tryz.prog 113 #[.slice A xs.length c, .slice B ys.length d] w (RetL w.heap.size w (val xs + val ys) (max xs.length ys.length + 1)) := by
  by_cases hle : ys.length ≤ xs.length
  · rw [Nat.max_eq_left hle]
    exact exact_add_ge A B c d xs ys hle hx w h g
  · rw [Nat.max_eq_right (by omega), Nat.add_comm (val xs)]
    exact exact_add_lt A B c d xs ys (by omega) hy w h g

theorem exact_sub (A B : Option Addr) (c d : Nat) (xs ys : List Nat) (hle : ys.length ≤ xs.length) (hvl : val ys ≤ val xs) (hl : xs.length ≤ 1073741824) (w : World) (h : Raw w A c xs) (g : Raw w B d ys) :
    Calls Tryz.prog 181 #[.slice A xs.length c, .slice B ys.length d] w (RetL w.heap.size w (val xs - val ys) xs.length) := by
  have HX := Hd h
  have HY := Hd g
  have hc := h.cap
  have hm := h.most
  have hd := g.cap
  have hn := g.most
  have HVL := Hd hvl
  clear h g hvl
  obtain ⟨i0, hi, hz0, hz1, hz2⟩ := info_parts limbInfo
  have hmk : ∀ W : World, (Instr.makeSlice 22 (.int .i64 (xs.length : Int)) (.int .i64 (xs.length : Int))).run Tryz.prog W = .ok (.slice (some ⟨W.heap.size, 0, none⟩) xs.length xs.length) (W.alloc (.cells (madeCells #[.int .u32 0] xs.length) 70)) := fun W => by
    have h := run_make_rowN (P := Tryz.prog) 22 70 i0 _ Tryz.underlying22 hi hz0 .i64 .i64 xs.length xs.length (by omega) (by rw [hz2]; omega) (by omega) W
    rw [hz1, Nat.mul_one] at h
    exact h
  have I0 : ∃ zs, zs.length = xs.length ∧ Limbs zs ∧ Row (w.alloc (.cells (madeCells #[.int .u32 0] xs.length) 70)) w.heap.size zs ∧ Below w.heap.size w (w.alloc (.cells (madeCells #[.int .u32 0] xs.length) 70)) ∧ val (zs.take 0) + val (ys.take 0) = val (xs.take 0) + 4294967296 ^ 0 * 0 :=
    ⟨_, by simp, limbs_noughts _, Row.made w _, (Below.refl _ _).alloc (Nat.le_refl _) _, rfl⟩
  have H0 := Hd I0
  clear I0
  go_enter Tryz.func181, Tryz.ntmps181
  go_wp2_with fail
  clear hmk
  go_loopw [6, 14] (fun t s wr => ∃ i k : Nat, s = .int .i64 i ∧ t = .int .u32 k ∧ k ≤ 1 ∧ i ≤ xs.length ∧ Hid (∃ zs, zs.length = xs.length ∧ Limbs zs ∧ Row wr w.heap.size zs ∧ Below w.heap.size w wr ∧ val (zs.take i) + val (ys.take i) = val (xs.take i) + 4294967296 ^ i * k)) (fun _ s _ => xs.length - (intOf s).toNat)
  case atStart => exact ⟨0, 0, rfl, rfl, by omega, Nat.zero_le _, H0⟩
  case round =>
    obtain ⟨i, k, rfl, rfl, hk, hi', HR⟩ := hrel
    clear H0
    obtain ⟨zs, hzl, hz, hrow, hb, hv⟩ := HR.out
    have HV := Hd hv
    have HZ := Hd hz
    clear HR hv hz
    by_cases hlt : i < xs.length
    · have a0 : (0 : Int) ≤ (i : Int) := by omega
      have a1 : (i : Int) < (xs.length : Int) := by omega
      have fz := hrow.frozen i
      have hcell := hrow.cell (k := i) (by omega)
      obtain ⟨ad, rfl, hbl, hx⟩ := (HX.out.below hb).reads.get hlt
      have hbx := Hd (limbs_get HX.out.limbs hlt)
      have step : ∀ y dd cc : Nat, y = at0 ys i → dd < 4294967296 → dd + y + k = xs[i] + 4294967296 * cc → ∃ zs', zs'.length = xs.length ∧ Limbs zs' ∧ Row (wr.setCell ⟨w.heap.size, i, none⟩ (.int .u32 (dd : Int))) w.heap.size zs' ∧ Below w.heap.size w (wr.setCell ⟨w.heap.size, i, none⟩ (.int .u32 (dd : Int))) ∧ val (zs'.take (i + 1)) + val (ys.take (i + 1)) = val (xs.take (i + 1)) + 4294967296 ^ (i + 1) * cc := fun y dd cc hy hd hcc =>
        ⟨zs.set i _, by simp [hzl], limbs_set HZ.out hd, hrow.set i _, hb.setCell (p := ⟨w.heap.size, i, none⟩) (Nat.le_refl _) _, by
          rw [set_take_more (by omega), val_take_more hlt, val_take_at0 ys i, ← hy, sub_step (zs := zs.take i) (k := i) (by rw [List.length_take]; omega) HV.out xs[i] y dd cc hcc]⟩
      have HS := Hd step
      have hq : k ≤ 1 := hk
      clear step
      generalize zs[i] = zi at hcell
      generalize hxe : xs[i] = x at hx hbx HS
      clear hxe
      by_cases hy : i < ys.length
      · obtain ⟨bd, rfl, hbl2, hy'⟩ := (HY.out.below hb).reads.get hy
        have b1 : (i : Int) < (ys.length : Int) := by omega
        have hby := Hd (limbs_get HY.out.limbs hy)
        have S := Hd (HS.out ys[i] ((x + 4294967296 - ys[i] - k) % 4294967296) (if x < ys[i] + k then 1 else 0) (at0_lt hy).symm (Nat.mod_lt _ (by omega)) (by have := hbx.out; have := hby.out; split <;> omega))
        clear HS
        generalize hye : ys[i] = y at hy' hby S
        clear hye
        have C := Hd (fun V => bits_Sub32 x y k hbx.out hby.out hq V)
        have hq2 : (if x < y + k then 1 else 0) ≤ 1 := by split <;> omega
        generalize (if x < y + k then 1 else 0) = cc at C S hq2
        generalize (x + 4294967296 - y - k) % 4294967296 = dd at C S
        clear hbl hbl2
        go_wp2_with (first | (go_at_call 210; with_reducible refine (C.out _).mono ?_; rintro e w' ⟨rfl, rfl⟩))
        go_roundw
        case rel => exact ⟨i + 1, cc, by go_num, rfl, hq2, hlt, S⟩
        case measure => simp [intOf]; omega
      · have b1 : (ys.length : Int) ≤ (i : Int) := by omega
        have S := Hd (HS.out 0 ((x + 4294967296 - 0 - k) % 4294967296) (if x < 0 + k then 1 else 0) (at0_ge (by omega)).symm (Nat.mod_lt _ (by omega)) (by have := hbx.out; split <;> omega))
        clear HS
        have C := Hd (fun V => bits_Sub32_0 x k hbx.out hq V)
        have hq2 : (if x < 0 + k then 1 else 0) ≤ 1 := by split <;> omega
        generalize (if x < 0 + k then 1 else 0) = cc at C S hq2
        generalize (x + 4294967296 - 0 - k) % 4294967296 = dd at C S
        clear hbl
        go_wp2_with (first | (go_at_call 210; with_reducible refine (C.out _).mono ?_; rintro e w' ⟨rfl, rfl⟩))
        go_roundw
        case rel => exact ⟨i + 1, cc, by go_num, rfl, hq2, hlt, S⟩
        case measure => simp [intOf]; omega
    · obtain rfl : i = xs.length := by omega
      have hval : val zs = val xs - val ys := by
        have e2 := HV.out
        rw [← hzl, val_take_all (xs := zs) (k := zs.length) (Nat.le_refl _), hzl, val_take_all (xs := xs) (k := xs.length) (Nat.le_refl _), val_take_all (xs := ys) (k := xs.length) (by omega)] at e2
        have e3 := val_lt HZ.out
        rw [hzl] at e3
        have e4 := HVL.out
        rcases (by omega : k = 0 ∨ k = 1) with rfl | rfl
        · omega
        · generalize 4294967296 ^ xs.length = P at *
          omega
      have hown := hrow.ownL_cut (base := w.heap.size) (Nat.le_refl _) (by omega) HZ.out
      have htrim := fun V (e : V = wr) => exact_trim (some ⟨w.heap.size, 0, none⟩) zs.length zs HZ.out (Nat.le_refl _) (by omega) V.heap.size V (e ▸ hrow.reads)
      rw [hzl] at htrim hown
      have C := Hd (htrim wr rfl)
      have HO := Hd hown
      have HE := Hd hval
      have HB := Hd hb
      clear hown htrim hval HV HZ HX HY hrow hb
      go_wp2_with (first | (go_at_call 114; with_reducible refine C.out.mono ?_; rintro e w' ⟨rfl, rfl⟩))
      go_ret
      exact ⟨_, rfl, by rw [← HE.out]; exact HO.out, HB.out⟩
/- Bits of the references: a loop. -/

theorem bitLen_step (y : Nat) (h0 : y ≠ 0) (h : y < 4294967296) : Lib.bitLen y = Lib.bitLen (y / 2) + 1 := by
  rw [Lib.bitLen_half y h0 (by omega)]; omega

theorem ref_Bits_more (neg : Bool) (A : Option Addr) (c : Nat) (xs : List Nat) (w : World) (h : Raw w A c xs) (k : Nat) (hk : xs.length = k + 1) (hl : xs.length ≤ 268435456) :
    Calls Tryz.prog 118 #[.agg #[.bool neg, .slice A xs.length c]] w fun e w' => e = .returned (.int .i64 (32 * (k : Int) + (Lib.bitLen (xs[k]) : Nat))) ∧ Below w.heap.size w w' := by
  have h1 := h.cap
  have h2 := h.most
  have hlim := limbs_get h.limbs (k := k) (by omega)
  obtain ⟨ad, rfl, hbl, hcell⟩ := h.reads.get (k := k) (by omega)
  have hbk : (ad.add k).block < w.heap.size := by rw [block_of_add]; exact hbl
  generalize xs[k] = y at hcell hlim ⊢
  rw [hk] at h1 hl ⊢
  clear h hk
  have hy := bitLen_le64 y
  go_enter Tryz.func118, Tryz.ntmps118
  go_wp2_with fail
  go_loop [3, 4] (fun n t => ∃ z : Nat, t = .int .u32 z ∧ z ≤ y ∧ Lib.bitLen z ≤ Lib.bitLen y ∧ n = .int .i64 (32 * (k : Int) + ((Lib.bitLen y - Lib.bitLen z : Nat) : Int))) (fun _ t => (intOf t).toNat)
  case atStart => exact ⟨y, rfl, Nat.le_refl _, Nat.le_refl _, by rw [Nat.sub_self]; simp⟩
  case round =>
    obtain ⟨z, rfl, hz, hle, rfl⟩ := hrel
    by_cases h0 : z = 0
    · subst h0
      go_wp2_with fail
      go_ret
      exact ⟨rfl, by repeat (first | exact Below.refl _ _ | refine Below.alloc ?_ (by simp; try omega) _)⟩
    · have hpos : 0 < z := by omega
      have hs := bitLen_step z h0 (by omega)
      have HS := Hd hs
      have e : 32 * (k : Int) + ((Lib.bitLen y - Lib.bitLen z : Nat) : Int) + 1 = 32 * (k : Int) + ((Lib.bitLen y - Lib.bitLen (z / 2) : Nat) : Int) := by omega
      have HE := Hd e
      have hl2 : Lib.bitLen (z / 2) ≤ Lib.bitLen y := by omega
      have hlz : Lib.bitLen y - Lib.bitLen z ≤ 64 := by omega
      clear hs e h0
      generalize Lib.bitLen y - Lib.bitLen z = d at *
      go_wp2_with fail
      go_round
      case rel => exact ⟨z / 2, by go_num, by omega, hl2, by rw [HE.out]⟩
      case measure => simp [intOf]; omega

theorem ref_Bits_any (neg : Bool) (A : Option Addr) (c : Nat) (xs : List Nat) (w : World) (h : Raw w A c xs) (hl : xs.length ≤ 268435456) :
    Calls Tryz.prog 118 #[.agg #[.bool neg, .slice A xs.length c]] w fun e w' => e = .returned (.int .i64 (bitsI xs)) ∧ Below w.heap.size w w' := by
  rcases Nat.eq_zero_or_pos xs.length with h0 | h0
  · have e : (bitsI xs : Int) = 0 := by simp [bitsI, h0]
    rw [e, h0]
    clear h h0 hl e
    go_enter Tryz.func118, Tryz.ntmps118
    go_wp2
    go_ret
    exact ⟨rfl, by repeat (first | exact Below.refl _ _ | apply below_drewN | refine Below.alloc ?_ (by simp; try omega) _)⟩
  · obtain ⟨k, hk⟩ : ∃ k, xs.length = k + 1 := ⟨xs.length - 1, by omega⟩
    have e : (bitsI xs : Int) = 32 * (k : Int) + (Lib.bitLen (xs[k]) : Nat) := by
      simp [bitsI, hk, getLast_get hk]
    rw [e]
    exact ref_Bits_more neg A c xs w h k hk hl
/- SameInt: the same sign, the same limbs. -/

theorem take_more_eq {xs ys : List Nat} {k : Nat} (hx : k < xs.length) (hy : k < ys.length) (h : xs.take k = ys.take k) (e : xs[k] = ys[k]) : xs.take (k + 1) = ys.take (k + 1) := by
  rw [List.take_succ_eq_append_getElem hx, List.take_succ_eq_append_getElem hy, h, e]

theorem same_loop (neg : Bool) (A B : Option Addr) (c d : Nat) (xs ys : List Nat) (hlen : xs.length = ys.length) (w : World) (h : Raw w A c xs) (g : Raw w B d ys) :
    Calls Tryz.prog 40 #[.agg #[.bool neg, .slice A xs.length c], .agg #[.bool neg, .slice B ys.length d]] w fun e w' => e = .returned (.bool (decide (xs = ys))) ∧ Below w.heap.size w w' := by
  have HX := Hd h
  have HY := Hd g
  have hm := h.most
  have hc := h.cap
  have HE := Hd hlen
  rw [← hlen]
  clear h g hlen
  go_enter Tryz.func40, Tryz.ntmps40
  go_wp2_with fail
  go_loopw [5] (fun i wr => ∃ k m : Nat, i = .int .i64 k ∧ k ≤ xs.length ∧ xs.take k = ys.take k ∧ wr = ((w.alloc (.cells #[.bool neg, .slice A xs.length c] 24)).alloc (.cells #[.bool neg, .slice B xs.length d] 24)).drewN m) (fun i _ => xs.length - (intOf i).toNat)
  case atStart => exact ⟨0, 0, rfl, Nat.zero_le _, rfl, rfl⟩
  case round =>
    obtain ⟨k, m, rfl, hk, htake, rfl⟩ := hrel
    have HT := Hd htake
    clear htake
    by_cases hlt : k < xs.length
    · have hlt2 : k < ys.length := by rw [← HE.out]; exact hlt
      obtain ⟨ad, rfl, hbl, hcell⟩ := HX.out.reads.get hlt
      obtain ⟨bd, rfl, hbl2, hcell2⟩ := HY.out.reads.get hlt2
      have hbk : (ad.add k).block < w.heap.size := by rw [block_of_add]; exact hbl
      have hbk2 : (bd.add k).block < w.heap.size := by rw [block_of_add]; exact hbl2
      have a0 : (0 : Int) ≤ (k : Int) := by omega
      have a1 : (k : Int) < (xs.length : Int) := by omega
      by_cases he : xs[k] = ys[k]
      · have HQ := Hd he
        rw [← he] at hcell2
        generalize hz : xs[k] = z at hcell hcell2
        clear he hz
        go_wp2_with fail
        go_quiet (fail)
        go_wp2_with fail
        go_roundw
        case rel => exact ⟨k + 1, _, by go_num, hlt, take_more_eq hlt hlt2 HT.out HQ.out, rfl⟩
        case measure => simp [intOf]; omega
      · have hne : ((xs[k] : Int) == (ys[k] : Int)) = false := by simp; omega
        have hne2 : ((xs[k] : Int) != (ys[k] : Int)) = true := by simp; omega
        have hd : decide (xs = ys) = false := by simp; rintro rfl; exact he rfl
        have HD := Hd hd
        clear hd
        have HQ := Hd he
        clear he
        generalize xs[k] = y at *
        generalize ys[k] = z at *
        go_wp2_with fail
        go_quiet (fail)
        go_wp2
        go_ret
        exact ⟨by rw [HD.out]; rfl, by repeat (first | exact Below.refl _ _ | apply below_drewN | refine Below.alloc ?_ (by simp; try omega) _)⟩
    · have hd : decide (xs = ys) = true := by
        have e := HT.out
        rw [List.take_of_length_le (by omega), List.take_of_length_le (by rw [← HE.out]; omega)] at e
        simp [e]
      have HD := Hd hd
      clear hd
      go_wp2
      go_ret
      exact ⟨by rw [HD.out]; rfl, by repeat (first | exact Below.refl _ _ | apply below_drewN | refine Below.alloc ?_ (by simp; try omega) _)⟩

theorem same_sign (n1 n2 : Bool) (hn : n1 ≠ n2) (A B : Option Addr) (c d n m : Nat) (w : World) :
    Calls Tryz.prog 40 #[.agg #[.bool n1, .slice A n c], .agg #[.bool n2, .slice B m d]] w fun e w' => e = .returned (.bool false) ∧ Below w.heap.size w w' := by
  cases n1 <;> cases n2
  · exact absurd rfl hn
  · clear hn
    go_enter Tryz.func40, Tryz.ntmps40
    go_wp2
    go_ret
    exact ⟨rfl, by repeat (first | exact Below.refl _ _ | apply below_drewN | refine Below.alloc ?_ (by simp; try omega) _)⟩
  · clear hn
    go_enter Tryz.func40, Tryz.ntmps40
    go_wp2
    go_ret
    exact ⟨rfl, by repeat (first | exact Below.refl _ _ | apply below_drewN | refine Below.alloc ?_ (by simp; try omega) _)⟩
  · exact absurd rfl hn

theorem same_length (neg : Bool) (A B : Option Addr) (c d n m : Nat) (hn : n ≠ m) (w : World) :
    Calls Tryz.prog 40 #[.agg #[.bool neg, .slice A n c], .agg #[.bool neg, .slice B m d]] w fun e w' => e = .returned (.bool false) ∧ Below w.heap.size w w' := by
  have h1 : ((n : Int) == (m : Int)) = false := by simp; omega
  have h2 : ((n : Int) != (m : Int)) = true := by simp; omega
  clear hn
  go_enter Tryz.func40, Tryz.ntmps40
  go_wp2
  go_ret
  exact ⟨rfl, by repeat (first | exact Below.refl _ _ | apply below_drewN | refine Below.alloc ?_ (by simp; try omega) _)⟩

theorem same_any (n1 n2 : Bool) (A B : Option Addr) (c d : Nat) (xs ys : List Nat) (w : World) (h : Raw w A c xs) (g : Raw w B d ys) :
    Calls Tryz.prog 40 #[.agg #[.bool n1, .slice A xs.length c], .agg #[.bool n2, .slice B ys.length d]] w fun e w' => e = .returned (.bool (decide (n1 = n2 ∧ xs = ys))) ∧ Below w.heap.size w w' := by
  by_cases hn : n1 = n2
  · subst hn
    by_cases hl : xs.length = ys.length
    · have e : decide (n1 = n1 ∧ xs = ys) = decide (xs = ys) := by simp
      rw [e]
      exact same_loop n1 A B c d xs ys hl w h g
    · have e : decide (n1 = n1 ∧ xs = ys) = false := by simp; rintro rfl; exact hl rfl
      rw [e]
      exact same_length n1 A B c d _ _ hl w
  · have e : decide (n1 = n2 ∧ xs = ys) = false := by simp [hn]
    rw [e]
    exact same_sign n1 n2 hn A B c d _ _ w
end Go.Proofs.YtkncbenhfcpgkaaGreatDoor
