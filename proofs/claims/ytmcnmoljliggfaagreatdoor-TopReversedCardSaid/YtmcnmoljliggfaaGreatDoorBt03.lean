/- Several texts in one: Vals, Carry, Row, Add, RefBits. -/
import Derived.Test.YtmcnmoljliggfaaGreatDoorBt02
set_option maxRecDepth 100000
set_option maxHeartbeats 8000000
/- More of numbers by their limbs: plain, no program in sight. -/
namespace Go.Proofs.YtmcnmoljliggfaaGreatDoor

abbrev BB : Nat := 4294967296

theorem val_snoc (xs : List Nat) (d : Nat) : val (xs ++ [d]) = val xs + 4294967296 ^ xs.length * d := by
  rw [val_append]; simp [val]
theorem val_take_more {xs : List Nat} {k : Nat} (h : k < xs.length) : val (xs.take (k + 1)) = val (xs.take k) + 4294967296 ^ k * xs[k] := by
  rw [List.take_succ_eq_append_getElem h, val_snoc, List.length_take, Nat.min_eq_left (by omega)]
theorem val_take_all {xs : List Nat} {k : Nat} (h : xs.length ≤ k) : val (xs.take k) = val xs := by
  rw [List.take_of_length_le h]
theorem val_noughts (n : Nat) : val (List.replicate n 0) = 0 := by
  induction n with
  | zero => rfl
  | succ n ih => simp [List.replicate_succ, val, ih]
theorem limbs_noughts (n : Nat) : Limbs (List.replicate n 0) := by
  intro x hx
  have := (List.mem_replicate.1 hx).2
  omega
theorem val_part (xs : List Nat) (k : Nat) (h : k ≤ xs.length) : val xs = val (xs.take k) + 4294967296 ^ k * val (xs.drop k) := by
  conv => lhs; rw [← List.take_append_drop k xs]
  rw [val_append, List.length_take, Nat.min_eq_left h]
theorem val_drop_more {xs : List Nat} {k : Nat} (h : k < xs.length) : val (xs.drop k) = xs[k] + 4294967296 * val (xs.drop (k + 1)) := by
  rw [List.drop_eq_getElem_cons h, val]
theorem val_set {xs : List Nat} {k d : Nat} (h : k < xs.length) : val (xs.set k d) + 4294967296 ^ k * xs[k] = val xs + 4294967296 ^ k * d := by
  induction xs generalizing k with
  | nil => simp at h
  | cons x xs ih =>
    cases k with
    | zero => simp [val]; omega
    | succ k =>
      have hk : k < xs.length := by simpa using h
      have := ih hk
      simp only [List.set_cons_succ, val, List.getElem_cons_succ, Nat.pow_succ]
      have e1 : 4294967296 ^ k * 4294967296 * xs[k] = 4294967296 * (4294967296 ^ k * xs[k]) := by grind
      have e2 : 4294967296 ^ k * 4294967296 * d = 4294967296 * (4294967296 ^ k * d) := by grind
      rw [e1, e2]
      omega
theorem limbs_set {xs : List Nat} (h : Limbs xs) {k d : Nat} (hd : d < 4294967296) : Limbs (xs.set k d) := by
  intro x hx
  rcases List.mem_or_eq_of_mem_set hx with hx | rfl
  · exact h x hx
  · exact hd
def at0 (xs : List Nat) (k : Nat) : Nat := xs.getD k 0
theorem at0_lt {xs : List Nat} {k : Nat} (h : k < xs.length) : at0 xs k = xs[k] := by simp [at0, h]
theorem at0_ge {xs : List Nat} {k : Nat} (h : xs.length ≤ k) : at0 xs k = 0 := by simp [at0, h]
theorem at0_limb {xs : List Nat} (hx : Limbs xs) (k : Nat) : at0 xs k < 4294967296 := by
  rcases Nat.lt_or_ge k xs.length with h | h
  · rw [at0_lt h]; exact limbs_get hx h
  · rw [at0_ge h]; omega
theorem val_take_at0 (xs : List Nat) (k : Nat) : val (xs.take (k + 1)) = val (xs.take k) + 4294967296 ^ k * at0 xs k := by
  rcases Nat.lt_or_ge k xs.length with h | h
  · rw [val_take_more h, at0_lt h]
  · rw [List.take_of_length_le (by omega), List.take_of_length_le h, at0_ge h]; simp

theorem add_step {zs : List Nat} {k c v : Nat} (hk : zs.length = k) (s : Nat) (h : val zs + 4294967296 ^ k * c = v) (x : Nat) (hs : s = x + c) :
    val (zs ++ [s % 4294967296]) + 4294967296 ^ (k + 1) * (s / 4294967296) = v + 4294967296 ^ k * x := by
  subst hk hs
  rw [val_snoc, ← h, Nat.pow_succ]
  generalize 4294967296 ^ zs.length = P
  have e : P * 4294967296 * ((x + c) / 4294967296) + P * ((x + c) % 4294967296) = P * (x + c) := by
    rw [Nat.mul_assoc, ← Nat.mul_add, Nat.div_add_mod]
  rw [Nat.mul_add] at e
  omega
theorem sub_step {zs : List Nat} {k b va vb : Nat} (hk : zs.length = k) (h : val zs + vb = va + 4294967296 ^ k * b) (x y d b' : Nat) (hd : d + y + b = x + 4294967296 * b') :
    val (zs ++ [d]) + (vb + 4294967296 ^ k * y) = va + 4294967296 ^ k * x + 4294967296 ^ (k + 1) * b' := by
  subst hk
  rw [val_snoc, Nat.pow_succ]
  generalize 4294967296 ^ zs.length = P at *
  have e : P * (d + y + b) = P * (x + 4294967296 * b') := by rw [hd]
  simp only [Nat.mul_add] at e
  rw [← Nat.mul_assoc] at e
  omega
theorem at0_set_ne {zs : List Nat} {m k d : Nat} (h : k ≠ m) : at0 (zs.set m d) k = at0 zs k := by
  simp only [at0, List.getD_eq_getElem?_getD]
  rw [List.getElem?_set_ne (by omega)]
theorem at0_noughts (n k : Nat) : at0 (List.replicate n 0) k = 0 := by
  simp only [at0, List.getD_eq_getElem?_getD, List.getElem?_replicate]
  split <;> rfl
theorem mul_step {zs : List Nat} {m c V : Nat} (hm : m < zs.length) (h : val zs + 4294967296 ^ m * c = V) (p t : Nat) (ht : t = c + p + zs[m]) :
    val (zs.set m (t % 4294967296)) + 4294967296 ^ (m + 1) * (t / 4294967296) = V + 4294967296 ^ m * p := by
  have e := val_set (xs := zs) (k := m) (d := t % 4294967296) hm
  rw [Nat.pow_succ]
  generalize 4294967296 ^ m = P at *
  have e2 : P * 4294967296 * (t / 4294967296) + P * (t % 4294967296) = P * t := by
    rw [Nat.mul_assoc, ← Nat.mul_add, Nat.div_add_mod]
  have e3 : P * t = P * c + P * p + P * zs[m] := by rw [ht, Nat.mul_add, Nat.mul_add]
  omega
theorem mul_last {zs : List Nat} {m c V : Nat} (hm : m < zs.length) (h : val zs + 4294967296 ^ m * c = V) (h0 : zs[m] = 0) : val (zs.set m c) = V := by
  have e := val_set (xs := zs) (k := m) (d := c) hm
  rw [h0] at e
  omega
theorem mul_bound {u v o c : Nat} (hu : u < 4294967296) (hv : v < 4294967296) (ho : o < 4294967296) (hc : c < 4294967296) : c + u * v + o < 18446744073709551616 ∧ (c + u * v + o) / 4294967296 < 4294967296 := by
  have h : u * v ≤ 4294967295 * 4294967295 := Nat.mul_le_mul (by omega) (by omega)
  omega
/- math/bits.Add32, Sub32, Div32. -/
open Go.RowKit

theorem bits_u32_nat (a b : Nat) (ha : a < 4294967296) (hb : b < 4294967296) :
    bits .and .u32 a b = ((a &&& b : Nat) : Int) ∧ bits .or .u32 a b = ((a ||| b : Nat) : Int) ∧ bits .xor .u32 a b = ((a ^^^ b : Nat) : Int) := by
  have h := bits_nat .u32 32 (by decide) (fun n h0 h1 => by rw [IntKind.wrap_u32]; omega) a b ha hb
  refine ⟨h.1, h.2, ?_⟩
  have ha' : a % 2 ^ IntKind.u32.bits = a := Nat.mod_eq_of_lt ha
  have hb' : b % 2 ^ IntKind.u32.bits = b := Nat.mod_eq_of_lt hb
  simp only [bits, BitVec.ofInt_natCast, BitVec.toNat_xor, BitVec.toNat_ofNat, ha', hb']
  rw [IntKind.wrap_u32]
  have : a ^^^ b < 2 ^ 32 := Nat.xor_lt_two_pow ha hb
  omega
theorem borrow_top (X Y D : Nat) (hX : X ≤ 1) (hY : Y ≤ 1) (hD : D ≤ 1) : (((1 ^^^ X) &&& Y) ||| ((1 ^^^ (X ^^^ Y)) &&& D)) = if X < Y ∨ (X = Y ∧ D = 1) then 1 else 0 := by
  rcases (by omega : X = 0 ∨ X = 1) with rfl | rfl <;> rcases (by omega : Y = 0 ∨ Y = 1) with rfl | rfl <;> rcases (by omega : D = 0 ∨ D = 1) with rfl | rfl <;> decide
theorem borrow_law (x y b d : Nat) (hx : x < 4294967296) (hy : y < 4294967296) (hb : b ≤ 1) (hd : d = (x + 4294967296 - y - b) % 4294967296) :
    (((4294967295 ^^^ x) &&& y) ||| ((4294967295 ^^^ (x ^^^ y)) &&& d)) / 2147483648 = if x < y + b then 1 else 0 := by
  rw [show 2147483648 = 2 ^ 31 by decide, ← Nat.shiftRight_eq_div_pow, Nat.shiftRight_or_distrib, Nat.shiftRight_and_distrib, Nat.shiftRight_and_distrib, Nat.shiftRight_xor_distrib, Nat.shiftRight_xor_distrib, Nat.shiftRight_xor_distrib, show 4294967295 >>> 31 = 1 by decide]
  simp only [Nat.shiftRight_eq_div_pow]
  rw [borrow_top _ _ _ (by omega) (by omega) (by omega)]
  by_cases h : x < y + b
  · rw [if_pos h, if_pos (by omega)]
  · rw [if_neg h, if_neg (by omega)]

theorem two_eq {a b c d : Int} (h1 : a = c) (h2 : b = d) : Ending.returned (.tuple #[.int .u32 a, .int .u32 b]) = .returned (.tuple #[.int .u32 c, .int .u32 d]) := by
  subst h1 h2; rfl

theorem bits_Add32 (x y c : Nat) (hx : x < 4294967296) (hy : y < 4294967296) (hc : c ≤ 1) (w : World) :
    Calls Tryz.prog 112 #[.int .u32 x, .int .u32 y, .int .u32 c] w fun e w' => e = .returned (.tuple #[.int .u32 ((x + y + c) % 4294967296 : Nat), .int .u32 ((x + y + c) / 4294967296 : Nat)]) ∧ w = w' := by
  go_enter Tryz.func112, Tryz.ntmps112
  go_wp2
  go_ret2
  exact ⟨two_eq (by omega) (by omega), rfl⟩

theorem bits_Sub32_core (x y b : Nat) (hx : x < 4294967296) (hy : y < 4294967296) (hb : b ≤ 1) (d q : Nat) (hd : Hid (d = (x + 4294967296 - y - b) % 4294967296)) (hq : Hid (q = if x < y + b then 1 else 0)) (w : World) :
    Calls Tryz.prog 113 #[.int .u32 x, .int .u32 y, .int .u32 b] w fun e w' => e = .returned (.tuple #[.int .u32 d, .int .u32 q]) ∧ w = w' := by
  have hm : IntKind.u32.max = 4294967295 := rfl
  go_enter Tryz.func113, Tryz.ntmps113
  go_wp2
  go_ret2
  have e : ((x : Int) - (y : Int) - (b : Int)) % 4294967296 = (d : Int) := by rw [hd.out]; omega
  refine ⟨two_eq e ?_, rfl⟩
  rw [e]
  have hd2 : d < 4294967296 := by have := hd.out; omega
  have h1 : 4294967295 ^^^ x < 4294967296 := Nat.xor_lt_two_pow (n := 32) (by omega) hx
  have h2 : x ^^^ y < 4294967296 := Nat.xor_lt_two_pow (n := 32) hx hy
  have h3 : 4294967295 ^^^ (x ^^^ y) < 4294967296 := Nat.xor_lt_two_pow (n := 32) (by omega) h2
  have e1 := (bits_u32_nat 4294967295 x (by omega) hx).2.2
  have e2 := (bits_u32_nat x y hx hy).2.2
  have e3 := (bits_u32_nat 4294967295 (x ^^^ y) (by omega) h2).2.2
  have e4 := (bits_u32_nat _ y h1 hy).1
  have e5 := (bits_u32_nat _ d h3 hd2).1
  have e6 := (bits_u32_nat _ _ (Nat.and_lt_two_pow (n := 32) (4294967295 ^^^ x) hy) (Nat.and_lt_two_pow (n := 32) (4294967295 ^^^ (x ^^^ y)) hd2)).2.1
  have e0 : ((4294967295 : Nat) : Int) = 4294967295 := rfl
  rw [e0] at e1 e3
  rw [e1, e2, e3, e4, e5, e6, hq.out, ← borrow_law x y b d hx hy hb hd.out]
  omega
theorem bits_Sub32 (x y b : Nat) (hx : x < 4294967296) (hy : y < 4294967296) (hb : b ≤ 1) (w : World) :
    Calls Tryz.prog 113 #[.int .u32 x, .int .u32 y, .int .u32 b] w fun e w' => e = .returned (.tuple #[.int .u32 ((x + 4294967296 - y - b) % 4294967296 : Nat), .int .u32 (if x < y + b then 1 else 0 : Nat)]) ∧ w = w' :=
  bits_Sub32_core x y b hx hy hb _ _ (Hd rfl) (Hd rfl) w
theorem bits_Add32_0 (x c : Nat) (hx : x < 4294967296) (hc : c ≤ 1) (w : World) :
    Calls Tryz.prog 112 #[.int .u32 x, .int .u32 0, .int .u32 c] w fun e w' => e = .returned (.tuple #[.int .u32 ((x + 0 + c) % 4294967296 : Nat), .int .u32 ((x + 0 + c) / 4294967296 : Nat)]) ∧ w = w' :=
  bits_Add32 x 0 c hx (by omega) hc w
theorem bits_Sub32_0 (x b : Nat) (hx : x < 4294967296) (hb : b ≤ 1) (w : World) :
    Calls Tryz.prog 113 #[.int .u32 x, .int .u32 0, .int .u32 b] w fun e w' => e = .returned (.tuple #[.int .u32 ((x + 4294967296 - 0 - b) % 4294967296 : Nat), .int .u32 (if x < 0 + b then 1 else 0 : Nat)]) ∧ w = w' :=
  bits_Sub32 x 0 b hx (by omega) hb w
/- Limbs in a block that a call fills; limbs of a call's own; signed over them. -/

structure Row (w : World) (g : Nat) (zs : List Nat) : Prop where
  blk : Blk w g 109 (cellsU zs).toArray
theorem Row.lt {w : World} {g : Nat} {zs : List Nat} (h : Row w g zs) : g < w.heap.size := h.blk.lt
theorem Row.below {w w' : World} {g : Nat} {zs : List Nat} (h : Row w g zs) (hb : Below w.heap.size w w') : Row w' g zs := ⟨h.blk.below hb h.blk.lt⟩
theorem Row.alloc {w : World} {g : Nat} {zs : List Nat} (h : Row w g zs) (o : Obj) : Row (w.alloc o) g zs := ⟨h.blk.alloc o⟩
theorem Row.cell {w : World} {g : Nat} {zs : List Nat} (h : Row w g zs) {k : Nat} (hk : k < zs.length) : w.cell? ⟨g, k, none⟩ = some (.int .u32 zs[k]) := by
  rw [h.blk.cell, List.getElem?_toArray, cellsU_get hk]
theorem Row.frozen {w : World} {g : Nat} {zs : List Nat} (h : Row w g zs) (k : Nat) : w.frozen? ⟨g, k, none⟩ = false := h.blk.frozen k
theorem Row.set {w : World} {g : Nat} {zs : List Nat} (h : Row w g zs) (k d : Nat) : Row (w.setCell ⟨g, k, none⟩ (.int .u32 (d : Int))) g (zs.set k d) := by
  have e : (cellsU (zs.set k d)).toArray = (cellsU zs).toArray.setIfInBounds k (.int .u32 (d : Int)) := by
    simp [cellsU, List.map_set]
  exact ⟨by rw [e]; exact h.blk.set_ k _⟩
theorem Row.made (w : World) (n : Nat) : Row (w.alloc (.cells (madeCells #[.int .u32 0] n) 109)) w.heap.size (List.replicate n 0) := by
  have e : (cellsU (List.replicate n 0)).toArray = madeCells #[.int .u32 0] n := by
    apply Array.ext
    · simp [cellsU, size_madeCells]
    · intro i h1 h2
      have e : i % 1 = 0 := Nat.mod_one i
      simp [cellsU, madeCells, e]
  exact ⟨by rw [e]; exact Blk.new w _ _⟩
theorem Row.own {w : World} {g base : Nat} {zs : List Nat} (h : Row w g zs) (hb : base ≤ g) {n : Nat} (hn : n ≤ zs.length) (hm : zs.length ≤ 70368744177664) :
    w.ownsRow base 109 1 (.slice (some ⟨g, 0, none⟩) n zs.length) n (cellsU (zs.take n)) := by
  refine ⟨by rw [cellsU_length, List.length_take]; omega, .inr ⟨g, zs.length, (cellsU zs).toArray, rfl, hb, h.blk, hn, by unfold maxLen; omega, by simp [cellsU], by simp [cellsU_take]⟩⟩

structure OwnL (w : World) (base : Nat) (v : Value) (n L : Nat) : Prop where
  form : ∃ A c zs, v = .slice A zs.length c ∧ Limbs zs ∧ val zs = n ∧ zs.length ≤ L ∧ zs.length ≤ c ∧ c ≤ 9223372036854775807 ∧ w.ownsRow base 109 1 (.slice A zs.length c) zs.length (cellsU zs)
theorem OwnL.below {w w' : World} {base : Nat} {v : Value} {n L : Nat} (h : OwnL w base v n L) (hb : Below w.heap.size w w') : OwnL w' base v n L := by
  obtain ⟨A, c, zs, h1, h2, h3, h4, h5, h6, h7⟩ := h.form
  exact ⟨A, c, zs, h1, h2, h3, h4, h5, h6, own_below h7 hb⟩
theorem OwnL.base {w : World} {b b' : Nat} {v : Value} {n L : Nat} (h : OwnL w b v n L) (hb : b' ≤ b) : OwnL w b' v n L := by
  obtain ⟨A, c, zs, h1, h2, h3, h4, h5, h6, h7⟩ := h.form
  refine ⟨A, c, zs, h1, h2, h3, h4, h5, h6, h7.1, ?_⟩
  rcases h7.2 with h8 | ⟨g, cap, cur, k1, k2, k3⟩
  · exact .inl h8
  · exact .inr ⟨g, cap, cur, k1, Nat.le_trans hb k2, k3⟩
theorem Row.ownL {w : World} {g base : Nat} {zs : List Nat} (h : Row w g zs) (hb : base ≤ g) (hm : zs.length ≤ 70368744177664) (hz : Limbs zs) : OwnL w base (.slice (some ⟨g, 0, none⟩) zs.length zs.length) (val zs) zs.length := by
  have := h.own hb (Nat.le_refl _) hm
  rw [List.take_length] at this
  exact ⟨_, _, zs, rfl, hz, rfl, Nat.le_refl _, Nat.le_refl _, by omega, this⟩
theorem Row.ownL_cut {w : World} {g base : Nat} {zs : List Nat} (h : Row w g zs) (hb : base ≤ g) (hm : zs.length ≤ 70368744177664) (hz : Limbs zs) : OwnL w base (.slice (some ⟨g, 0, none⟩) (natL (val zs)).length zs.length) (val zs) zs.length := by
  have hle := natL_val_le hz
  have := h.own hb hle hm
  rw [← natL_take hz] at this
  exact ⟨_, _, natL (val zs), rfl, limbs_natL _, val_natL _, hle, hle, by omega, this⟩
theorem Row.reads {w : World} {g : Nat} {zs : List Nat} (h : Row w g zs) : ReadsU w w.heap.size (some ⟨g, 0, none⟩) zs := by
  refine ⟨by rw [cellsU_length, Nat.mul_one], fun _ => ⟨⟨g, 0, none⟩, rfl, h.lt, fun j u hu => ?_⟩⟩
  have hj : j < zs.length := by
    have := (List.getElem?_eq_some_iff.1 hu).1
    rwa [cellsU_length] at this
  rw [cellsU_get hj] at hu
  have e : (⟨g, 0, none⟩ : Addr).add j = ⟨g, j, none⟩ := by unfold Addr.add; split <;> simp_all
  rw [e, ← hu]
  exact h.cell hj
def RetL (base : Nat) (w : World) (n L : Nat) (e : Ending) (w' : World) : Prop := ∃ v, e = .returned v ∧ OwnL w' base v n L ∧ Below w.heap.size w w'

theorem exact_signed_own (neg : Bool) (v : Value) (n L base : Nat) (w : World) (h : OwnL w base v n L) :
    Calls Tryz.prog 100 #[.bool neg, v] w (RetInt base w (if neg then -(n : Int) else n)) := by
  obtain ⟨A, c, zs, rfl, h2, h3, h4, h5, h6, h7⟩ := h.form
  have hr : Raw w A c zs := ⟨h2, h5, h6, Reads.of_own h7⟩
  subst h3
  by_cases h0 : val zs = 0
  · refine (exact_signed_nought neg A c zs w hr h0).mono ?_
    rintro e w' ⟨rfl, hb⟩
    rw [h0]
    exact ⟨_, rfl, by cases neg <;> exact IntOwn.nought _ _, hb⟩
  · refine (exact_signed_more neg A c zs w hr h0).mono ?_
    rintro e w' ⟨rfl, hb⟩
    exact ⟨_, rfl, IntOwn.signed h2 (own_below h7 hb) h5 h6 rfl h0, hb⟩
theorem set_take_more {zs : List Nat} {k d : Nat} (h : k < zs.length) : (zs.set k d).take (k + 1) = zs.take k ++ [d] := by
  rw [List.take_succ_eq_append_getElem (by simpa using h), List.take_set_of_le (Nat.le_refl _)]
  simp

structure OwnN (w : World) (base : Nat) (v : Value) (n : Nat) : Prop where
  form : ∃ A c, v = .slice A (natL n).length c ∧ (natL n).length ≤ c ∧ c ≤ 9223372036854775807 ∧ w.ownsRow base 109 1 (.slice A (natL n).length c) (natL n).length (cellsU (natL n))
theorem OwnN.below {w w' : World} {base n : Nat} {v : Value} (h : OwnN w base v n) (hb : Below w.heap.size w w') : OwnN w' base v n := by
  obtain ⟨A, c, h1, h2, h3, h4⟩ := h.form
  exact ⟨A, c, h1, h2, h3, own_below h4 hb⟩
theorem OwnN.base {w : World} {b b' n : Nat} {v : Value} (h : OwnN w b v n) (hb : b' ≤ b) : OwnN w b' v n := by
  obtain ⟨A, c, h1, h2, h3, h4⟩ := h.form
  refine ⟨A, c, h1, h2, h3, h4.1, ?_⟩
  rcases h4.2 with h8 | ⟨g, cap, cur, k1, k2, k3⟩
  · exact .inl h8
  · exact .inr ⟨g, cap, cur, k1, Nat.le_trans hb k2, k3⟩
theorem OwnN.raw {w : World} {base n : Nat} {v : Value} (h : OwnN w base v n) : ∃ A c, v = .slice A (natL n).length c ∧ Raw w A c (natL n) := by
  obtain ⟨A, c, h1, h2, h3, h4⟩ := h.form
  exact ⟨A, c, h1, limbs_natL _, h2, h3, Reads.of_own h4⟩
theorem OwnN.raw_ {w : World} {base n c : Nat} {A : Option Addr} (h : OwnN w base (.slice A (natL n).length c) n) : Raw w A c (natL n) := by
  obtain ⟨A', c', h1, h2⟩ := h.raw
  injection h1 with a1 a2 a3
  subst a1 a3
  exact h2
theorem natL_mono {a b : Nat} (h : a ≤ b) : (natL a).length ≤ (natL b).length := by
  rw [natL_length_le]
  refine Nat.lt_of_le_of_lt h ?_
  have := val_lt (limbs_natL b)
  rwa [val_natL] at this
def RetN (base : Nat) (w : World) (n : Nat) (e : Ending) (w' : World) : Prop := ∃ v, e = .returned v ∧ OwnN w' base v n ∧ Below w.heap.size w w'
/- add and sub of package exact: what they count. (Written by wip/exact/genadd.py.) -/

theorem exact_add_ge (A B : Option Addr) (c d : Nat) (xs ys : List Nat) (hle : ys.length ≤ xs.length) (hl : xs.length ≤ 1073741824) (w : World) (h : Raw w A c xs) (g : Raw w B d ys) :
    Calls Tryz.prog 102 #[.slice A xs.length c, .slice B ys.length d] w (RetL w.heap.size w (val xs + val ys) (xs.length + 1)) := by
  have HX := Hd h
  have HY := Hd g
  have hc := h.cap
  have hm := h.most
  have hd := g.cap
  have hn := g.most
  have hcond : decide (xs.length < ys.length) = false := by simp; omega
  clear h g
  obtain ⟨i0, hi, hz0, hz1, hz2⟩ := info_parts limbInfo
  have hmk : ∀ W : World, (Instr.makeSlice 23 (.int .i64 ((xs.length : Int) + 1)) (.int .i64 ((xs.length : Int) + 1))).run Tryz.prog W = .ok (.slice (some ⟨W.heap.size, 0, none⟩) (xs.length + 1) (xs.length + 1)) (W.alloc (.cells (madeCells #[.int .u32 0] (xs.length + 1)) 109)) := fun W => by
    have h := run_make_rowN (P := Tryz.prog) 23 109 i0 _ Tryz.underlying23 hi hz0 .i64 .i64 (xs.length + 1) (xs.length + 1) (by omega) (by rw [hz2]; omega) (by omega) W
    rw [show ((xs.length + 1 : Nat) : Int) = (xs.length : Int) + 1 by omega, hz1, Nat.mul_one] at h
    exact h
  have I0 : ∃ zs, zs.length = xs.length + 1 ∧ Limbs zs ∧ Row (w.alloc (.cells (madeCells #[.int .u32 0] (xs.length + 1)) 109)) w.heap.size zs ∧ Below w.heap.size w (w.alloc (.cells (madeCells #[.int .u32 0] (xs.length + 1)) 109)) ∧ val (zs.take 0) + 4294967296 ^ 0 * 0 = val (xs.take 0) + val (ys.take 0) :=
    ⟨_, by simp, limbs_noughts _, Row.made w _, (Below.refl _ _).alloc (Nat.le_refl _) _, rfl⟩
  have H0 := Hd I0
  clear I0
  go_enter Tryz.func102, Tryz.ntmps102
  go_wp2_with fail
  clear hmk
  go_loopw [6, 22] (fun t s wr => ∃ i k : Nat, s = .int .i64 i ∧ t = .int .u32 k ∧ k ≤ 1 ∧ i ≤ xs.length ∧ Hid (∃ zs, zs.length = xs.length + 1 ∧ Limbs zs ∧ Row wr w.heap.size zs ∧ Below w.heap.size w wr ∧ val (zs.take i) + 4294967296 ^ i * k = val (xs.take i) + val (ys.take i))) (fun _ s _ => xs.length - (intOf s).toNat)
  case atStart => exact ⟨0, 0, rfl, rfl, by omega, Nat.zero_le _, H0⟩
  case round =>
    obtain ⟨i, k, rfl, rfl, hk, hi', HR⟩ := hrel
    clear H0
    obtain ⟨zs, hzl, hz, hrow, hb, hv⟩ := HR.out
    have HV := Hd hv
    have HZ := Hd hz
    clear HR hv hz
    by_cases hlt : i < xs.length
    · have a0 : (0 : Int) ≤ (i : Int) := by omega
      have a1 : (i : Int) < (xs.length : Int) := by omega
      have a2 : (i : Int) < (xs.length : Int) + 1 := by omega
      have fz := hrow.frozen i
      have hcell := hrow.cell (k := i) (by omega)
      obtain ⟨ad, rfl, hbl, hx⟩ := (HX.out.below hb).reads.get hlt
      have hbx := Hd (limbs_get HX.out.limbs hlt)
      have step : ∀ y : Nat, y = at0 ys i → y < 4294967296 → ∃ zs', zs'.length = xs.length + 1 ∧ Limbs zs' ∧ Row (wr.setCell ⟨w.heap.size, i, none⟩ (.int .u32 (((xs[i] + y + k) % 4294967296 : Nat) : Int))) w.heap.size zs' ∧ Below w.heap.size w (wr.setCell ⟨w.heap.size, i, none⟩ (.int .u32 (((xs[i] + y + k) % 4294967296 : Nat) : Int))) ∧ val (zs'.take (i + 1)) + 4294967296 ^ (i + 1) * ((xs[i] + y + k) / 4294967296) = val (xs.take (i + 1)) + val (ys.take (i + 1)) := fun y hy hy2 =>
        ⟨zs.set i _, by simp [hzl], limbs_set HZ.out (Nat.mod_lt _ (by omega)), hrow.set i _, hb.setCell (p := ⟨w.heap.size, i, none⟩) (Nat.le_refl _) _, by
          rw [set_take_more (by omega), add_step (zs := zs.take i) (k := i) (by rw [List.length_take]; omega) (xs[i] + y + k) HV.out (xs[i] + y) rfl, val_take_more hlt, val_take_at0 ys i, ← hy, Nat.mul_add]
          omega⟩
      have HS := Hd step
      have hq : k ≤ 1 := hk
      clear step
      generalize zs[i] = zi at hcell
      generalize hxe : xs[i] = x at hx hbx HS
      clear hxe
      by_cases hy : i < ys.length
      · obtain ⟨bd, rfl, hbl2, hy'⟩ := (HY.out.below hb).reads.get hy
        have b1 : (i : Int) < (ys.length : Int) := by omega
        have hby := Hd (limbs_get HY.out.limbs hy)
        have S := Hd (HS.out ys[i] (at0_lt hy).symm (limbs_get HY.out.limbs hy))
        clear HS
        generalize hye : ys[i] = y at hy' hby S
        clear hye
        have C := Hd (fun V => bits_Add32 x y k hbx.out hby.out hq V)
        have hq2 : (x + y + k) / 4294967296 ≤ 1 := by have := hbx.out; have := hby.out; omega
        generalize (x + y + k) / 4294967296 = cc at C S hq2
        generalize (x + y + k) % 4294967296 = dd at C S
        clear hbl hbl2
        go_wp2_with (first | (go_at_call 112; with_reducible refine (C.out _).mono ?_; rintro e w' ⟨rfl, rfl⟩))
        go_roundw
        case rel => exact ⟨i + 1, cc, by go_num, rfl, hq2, hlt, S⟩
        case measure => simp [intOf]; omega
      · have b1 : (ys.length : Int) ≤ (i : Int) := by omega
        have S := Hd (HS.out 0 (at0_ge (by omega)).symm (by omega))
        clear HS
        have C := Hd (fun V => bits_Add32_0 x k hbx.out hq V)
        have hq2 : (x + 0 + k) / 4294967296 ≤ 1 := by have := hbx.out; omega
        generalize (x + 0 + k) / 4294967296 = cc at C S hq2
        generalize (x + 0 + k) % 4294967296 = dd at C S
        clear hbl
        go_wp2_with (first | (go_at_call 112; with_reducible refine (C.out _).mono ?_; rintro e w' ⟨rfl, rfl⟩))
        go_roundw
        case rel => exact ⟨i + 1, cc, by go_num, rfl, hq2, hlt, S⟩
        case measure => simp [intOf]; omega
    · obtain rfl : i = xs.length := by omega
      have fz := hrow.frozen xs.length
      have hcell := hrow.cell (k := xs.length) (by omega)
      generalize zs[xs.length] = zi at hcell
      have a0 : (0 : Int) ≤ (xs.length : Int) := by omega
      have a2 : (xs.length : Int) < (xs.length : Int) + 1 := by omega
      have hrow2 := hrow.set xs.length k
      have hb2 := hb.setCell (p := ⟨w.heap.size, xs.length, none⟩) (Nat.le_refl _) (.int .u32 (k : Int))
      have hval : val (zs.set xs.length k) = val xs + val ys := by
        have e := set_take_more (zs := zs) (k := xs.length) (d := k) (by omega)
        rw [List.take_of_length_le (by simp; omega)] at e
        have e2 := HV.out
        rw [val_take_all (xs := xs) (k := xs.length) (Nat.le_refl _), val_take_all (xs := ys) (k := xs.length) (by omega)] at e2
        rw [e, val_snoc, List.length_take, Nat.min_eq_left (by omega)]
        exact e2
      have hown := hrow2.ownL (base := w.heap.size) (Nat.le_refl _) (by simp; omega) (limbs_set HZ.out (by omega))
      rw [hval, List.length_set, hzl] at hown
      have HO := Hd hown
      have HB := Hd hb2
      clear hown hb2 hval hrow2 HV HZ HX HY
      go_wp2_with fail
      go_ret
      exact ⟨_, rfl, HO.out, HB.out⟩

theorem exact_add_lt (A B : Option Addr) (c d : Nat) (xs ys : List Nat) (hle : xs.length < ys.length) (hl : ys.length ≤ 1073741824) (w : World) (h : Raw w A c xs) (g : Raw w B d ys) :
    Calls Tryz.prog 102 #[.slice A xs.length c, .slice B ys.length d] w (RetL w.heap.size w (val ys + val xs) (ys.length + 1)) := by
  have HX := Hd g
  have HY := Hd h
  have hc := h.cap
  have hm := h.most
  have hd := g.cap
  have hn := g.most
  have hcond : decide (xs.length < ys.length) = true := by simp; omega
  clear h g
  obtain ⟨i0, hi, hz0, hz1, hz2⟩ := info_parts limbInfo
  have hmk : ∀ W : World, (Instr.makeSlice 23 (.int .i64 ((ys.length : Int) + 1)) (.int .i64 ((ys.length : Int) + 1))).run Tryz.prog W = .ok (.slice (some ⟨W.heap.size, 0, none⟩) (ys.length + 1) (ys.length + 1)) (W.alloc (.cells (madeCells #[.int .u32 0] (ys.length + 1)) 109)) := fun W => by
    have h := run_make_rowN (P := Tryz.prog) 23 109 i0 _ Tryz.underlying23 hi hz0 .i64 .i64 (ys.length + 1) (ys.length + 1) (by omega) (by rw [hz2]; omega) (by omega) W
    rw [show ((ys.length + 1 : Nat) : Int) = (ys.length : Int) + 1 by omega, hz1, Nat.mul_one] at h
    exact h
  have I0 : ∃ zs, zs.length = ys.length + 1 ∧ Limbs zs ∧ Row (w.alloc (.cells (madeCells #[.int .u32 0] (ys.length + 1)) 109)) w.heap.size zs ∧ Below w.heap.size w (w.alloc (.cells (madeCells #[.int .u32 0] (ys.length + 1)) 109)) ∧ val (zs.take 0) + 4294967296 ^ 0 * 0 = val (ys.take 0) + val (xs.take 0) :=
    ⟨_, by simp, limbs_noughts _, Row.made w _, (Below.refl _ _).alloc (Nat.le_refl _) _, rfl⟩
  have H0 := Hd I0
  clear I0
  go_enter Tryz.func102, Tryz.ntmps102
  go_wp2_with fail
  clear hmk
  go_loopw [6, 22] (fun t s wr => ∃ i k : Nat, s = .int .i64 i ∧ t = .int .u32 k ∧ k ≤ 1 ∧ i ≤ ys.length ∧ Hid (∃ zs, zs.length = ys.length + 1 ∧ Limbs zs ∧ Row wr w.heap.size zs ∧ Below w.heap.size w wr ∧ val (zs.take i) + 4294967296 ^ i * k = val (ys.take i) + val (xs.take i))) (fun _ s _ => ys.length - (intOf s).toNat)
  case atStart => exact ⟨0, 0, rfl, rfl, by omega, Nat.zero_le _, H0⟩
  case round =>
    obtain ⟨i, k, rfl, rfl, hk, hi', HR⟩ := hrel
    clear H0
    obtain ⟨zs, hzl, hz, hrow, hb, hv⟩ := HR.out
    have HV := Hd hv
    have HZ := Hd hz
    clear HR hv hz
    by_cases hlt : i < ys.length
    · have a0 : (0 : Int) ≤ (i : Int) := by omega
      have a1 : (i : Int) < (ys.length : Int) := by omega
      have a2 : (i : Int) < (ys.length : Int) + 1 := by omega
      have fz := hrow.frozen i
      have hcell := hrow.cell (k := i) (by omega)
      obtain ⟨ad, rfl, hbl, hx⟩ := (HX.out.below hb).reads.get hlt
      have hbx := Hd (limbs_get HX.out.limbs hlt)
      have step : ∀ y : Nat, y = at0 xs i → y < 4294967296 → ∃ zs', zs'.length = ys.length + 1 ∧ Limbs zs' ∧ Row (wr.setCell ⟨w.heap.size, i, none⟩ (.int .u32 (((ys[i] + y + k) % 4294967296 : Nat) : Int))) w.heap.size zs' ∧ Below w.heap.size w (wr.setCell ⟨w.heap.size, i, none⟩ (.int .u32 (((ys[i] + y + k) % 4294967296 : Nat) : Int))) ∧ val (zs'.take (i + 1)) + 4294967296 ^ (i + 1) * ((ys[i] + y + k) / 4294967296) = val (ys.take (i + 1)) + val (xs.take (i + 1)) := fun y hy hy2 =>
        ⟨zs.set i _, by simp [hzl], limbs_set HZ.out (Nat.mod_lt _ (by omega)), hrow.set i _, hb.setCell (p := ⟨w.heap.size, i, none⟩) (Nat.le_refl _) _, by
          rw [set_take_more (by omega), add_step (zs := zs.take i) (k := i) (by rw [List.length_take]; omega) (ys[i] + y + k) HV.out (ys[i] + y) rfl, val_take_more hlt, val_take_at0 xs i, ← hy, Nat.mul_add]
          omega⟩
      have HS := Hd step
      have hq : k ≤ 1 := hk
      clear step
      generalize zs[i] = zi at hcell
      generalize hxe : ys[i] = x at hx hbx HS
      clear hxe
      by_cases hy : i < xs.length
      · obtain ⟨bd, rfl, hbl2, hy'⟩ := (HY.out.below hb).reads.get hy
        have b1 : (i : Int) < (xs.length : Int) := by omega
        have hby := Hd (limbs_get HY.out.limbs hy)
        have S := Hd (HS.out xs[i] (at0_lt hy).symm (limbs_get HY.out.limbs hy))
        clear HS
        generalize hye : xs[i] = y at hy' hby S
        clear hye
        have C := Hd (fun V => bits_Add32 x y k hbx.out hby.out hq V)
        have hq2 : (x + y + k) / 4294967296 ≤ 1 := by have := hbx.out; have := hby.out; omega
        generalize (x + y + k) / 4294967296 = cc at C S hq2
        generalize (x + y + k) % 4294967296 = dd at C S
        clear hbl hbl2
        go_wp2_with (first | (go_at_call 112; with_reducible refine (C.out _).mono ?_; rintro e w' ⟨rfl, rfl⟩))
        go_roundw
        case rel => exact ⟨i + 1, cc, by go_num, rfl, hq2, hlt, S⟩
        case measure => simp [intOf]; omega
      · have b1 : (xs.length : Int) ≤ (i : Int) := by omega
        have S := Hd (HS.out 0 (at0_ge (by omega)).symm (by omega))
        clear HS
        have C := Hd (fun V => bits_Add32_0 x k hbx.out hq V)
        have hq2 : (x + 0 + k) / 4294967296 ≤ 1 := by have := hbx.out; omega
        generalize (x + 0 + k) / 4294967296 = cc at C S hq2
        generalize (x + 0 + k) % 4294967296 = dd at C S
        clear hbl
        go_wp2_with (first | (go_at_call 112; with_reducible refine (C.out _).mono ?_; rintro e w' ⟨rfl, rfl⟩))
        go_roundw
        case rel => exact ⟨i + 1, cc, by go_num, rfl, hq2, hlt, S⟩
        case measure => simp [intOf]; omega
    · obtain rfl : i = ys.length := by omega
      have fz := hrow.frozen ys.length
      have hcell := hrow.cell (k := ys.length) (by omega)
      generalize zs[ys.length] = zi at hcell
      have a0 : (0 : Int) ≤ (ys.length : Int) := by omega
      have a2 : (ys.length : Int) < (ys.length : Int) + 1 := by omega
      have hrow2 := hrow.set ys.length k
      have hb2 := hb.setCell (p := ⟨w.heap.size, ys.length, none⟩) (Nat.le_refl _) (.int .u32 (k : Int))
      have hval : val (zs.set ys.length k) = val ys + val xs := by
        have e := set_take_more (zs := zs) (k := ys.length) (d := k) (by omega)
        rw [List.take_of_length_le (by simp; omega)] at e
        have e2 := HV.out
        rw [val_take_all (xs := ys) (k := ys.length) (Nat.le_refl _), val_take_all (xs := xs) (k := ys.length) (by omega)] at e2
        rw [e, val_snoc, List.length_take, Nat.min_eq_left (by omega)]
        exact e2
      have hown := hrow2.ownL (base := w.heap.size) (Nat.le_refl _) (by simp; omega) (limbs_set HZ.out (by omega))
      rw [hval, List.length_set, hzl] at hown
      have HO := Hd hown
      have HB := Hd hb2
      clear hown hb2 hval hrow2 HV HZ HX HY
      go_wp2_with fail
      go_ret
      exact ⟨_, rfl, HO.out, HB.out⟩

theorem exact_add (A B : Option Addr) (c d : Nat) (xs ys : List Nat) (hx : xs.length ≤ 1073741824) (hy : ys.length ≤ 1073741824) (w : World) (h : Raw w A c xs) (g : Raw w B d ys) :
    Calls Tryz.prog 102 #[.slice A xs.length c, .slice B ys.length d] w (RetL w.heap.size w (val xs + val ys) (max xs.length ys.length + 1)) := by
  by_cases hle : ys.length ≤ xs.length
  · rw [Nat.max_eq_left hle]
    exact exact_add_ge A B c d xs ys hle hx w h g
  · rw [Nat.max_eq_right (by omega), Nat.add_comm (val xs)]
    exact exact_add_lt A B c d xs ys (by omega) hy w h g

theorem exact_sub (A B : Option Addr) (c d : Nat) (xs ys : List Nat) (hle : ys.length ≤ xs.length) (hvl : val ys ≤ val xs) (hl : xs.length ≤ 1073741824) (w : World) (h : Raw w A c xs) (g : Raw w B d ys) :
    Calls Tryz.prog 103 #[.slice A xs.length c, .slice B ys.length d] w (RetL w.heap.size w (val xs - val ys) xs.length) := by
  have HX := Hd h
  have HY := Hd g
  have hc := h.cap
  have hm := h.most
  have hd := g.cap
  have hn := g.most
  have HVL := Hd hvl
  clear h g hvl
  obtain ⟨i0, hi, hz0, hz1, hz2⟩ := info_parts limbInfo
  have hmk : ∀ W : World, (Instr.makeSlice 23 (.int .i64 (xs.length : Int)) (.int .i64 (xs.length : Int))).run Tryz.prog W = .ok (.slice (some ⟨W.heap.size, 0, none⟩) xs.length xs.length) (W.alloc (.cells (madeCells #[.int .u32 0] xs.length) 109)) := fun W => by
    have h := run_make_rowN (P := Tryz.prog) 23 109 i0 _ Tryz.underlying23 hi hz0 .i64 .i64 xs.length xs.length (by omega) (by rw [hz2]; omega) (by omega) W
    rw [hz1, Nat.mul_one] at h
    exact h
  have I0 : ∃ zs, zs.length = xs.length ∧ Limbs zs ∧ Row (w.alloc (.cells (madeCells #[.int .u32 0] xs.length) 109)) w.heap.size zs ∧ Below w.heap.size w (w.alloc (.cells (madeCells #[.int .u32 0] xs.length) 109)) ∧ val (zs.take 0) + val (ys.take 0) = val (xs.take 0) + 4294967296 ^ 0 * 0 :=
    ⟨_, by simp, limbs_noughts _, Row.made w _, (Below.refl _ _).alloc (Nat.le_refl _) _, rfl⟩
  have H0 := Hd I0
  clear I0
  go_enter Tryz.func103, Tryz.ntmps103
  go_wp2_with fail
  clear hmk
  go_loopw [6, 14] (fun t s wr => ∃ i k : Nat, s = .int .i64 i ∧ t = .int .u32 k ∧ k ≤ 1 ∧ i ≤ xs.length ∧ Hid (∃ zs, zs.length = xs.length ∧ Limbs zs ∧ Row wr w.heap.size zs ∧ Below w.heap.size w wr ∧ val (zs.take i) + val (ys.take i) = val (xs.take i) + 4294967296 ^ i * k)) (fun _ s _ => xs.length - (intOf s).toNat)
  case atStart => exact ⟨0, 0, rfl, rfl, by omega, Nat.zero_le _, H0⟩
  case round =>
    obtain ⟨i, k, rfl, rfl, hk, hi', HR⟩ := hrel
    clear H0
    obtain ⟨zs, hzl, hz, hrow, hb, hv⟩ := HR.out
    have HV := Hd hv
    have HZ := Hd hz
    clear HR hv hz
    by_cases hlt : i < xs.length
    · have a0 : (0 : Int) ≤ (i : Int) := by omega
      have a1 : (i : Int) < (xs.length : Int) := by omega
      have fz := hrow.frozen i
      have hcell := hrow.cell (k := i) (by omega)
      obtain ⟨ad, rfl, hbl, hx⟩ := (HX.out.below hb).reads.get hlt
      have hbx := Hd (limbs_get HX.out.limbs hlt)
      have step : ∀ y dd cc : Nat, y = at0 ys i → dd < 4294967296 → dd + y + k = xs[i] + 4294967296 * cc → ∃ zs', zs'.length = xs.length ∧ Limbs zs' ∧ Row (wr.setCell ⟨w.heap.size, i, none⟩ (.int .u32 (dd : Int))) w.heap.size zs' ∧ Below w.heap.size w (wr.setCell ⟨w.heap.size, i, none⟩ (.int .u32 (dd : Int))) ∧ val (zs'.take (i + 1)) + val (ys.take (i + 1)) = val (xs.take (i + 1)) + 4294967296 ^ (i + 1) * cc := fun y dd cc hy hd hcc =>
        ⟨zs.set i _, by simp [hzl], limbs_set HZ.out hd, hrow.set i _, hb.setCell (p := ⟨w.heap.size, i, none⟩) (Nat.le_refl _) _, by
          rw [set_take_more (by omega), val_take_more hlt, val_take_at0 ys i, ← hy, sub_step (zs := zs.take i) (k := i) (by rw [List.length_take]; omega) HV.out xs[i] y dd cc hcc]⟩
      have HS := Hd step
      have hq : k ≤ 1 := hk
      clear step
      generalize zs[i] = zi at hcell
      generalize hxe : xs[i] = x at hx hbx HS
      clear hxe
      by_cases hy : i < ys.length
      · obtain ⟨bd, rfl, hbl2, hy'⟩ := (HY.out.below hb).reads.get hy
        have b1 : (i : Int) < (ys.length : Int) := by omega
        have hby := Hd (limbs_get HY.out.limbs hy)
        have S := Hd (HS.out ys[i] ((x + 4294967296 - ys[i] - k) % 4294967296) (if x < ys[i] + k then 1 else 0) (at0_lt hy).symm (Nat.mod_lt _ (by omega)) (by have := hbx.out; have := hby.out; split <;> omega))
        clear HS
        generalize hye : ys[i] = y at hy' hby S
        clear hye
        have C := Hd (fun V => bits_Sub32 x y k hbx.out hby.out hq V)
        have hq2 : (if x < y + k then 1 else 0) ≤ 1 := by split <;> omega
        generalize (if x < y + k then 1 else 0) = cc at C S hq2
        generalize (x + 4294967296 - y - k) % 4294967296 = dd at C S
        clear hbl hbl2
        go_wp2_with (first | (go_at_call 113; with_reducible refine (C.out _).mono ?_; rintro e w' ⟨rfl, rfl⟩))
        go_roundw
        case rel => exact ⟨i + 1, cc, by go_num, rfl, hq2, hlt, S⟩
        case measure => simp [intOf]; omega
      · have b1 : (ys.length : Int) ≤ (i : Int) := by omega
        have S := Hd (HS.out 0 ((x + 4294967296 - 0 - k) % 4294967296) (if x < 0 + k then 1 else 0) (at0_ge (by omega)).symm (Nat.mod_lt _ (by omega)) (by have := hbx.out; split <;> omega))
        clear HS
        have C := Hd (fun V => bits_Sub32_0 x k hbx.out hq V)
        have hq2 : (if x < 0 + k then 1 else 0) ≤ 1 := by split <;> omega
        generalize (if x < 0 + k then 1 else 0) = cc at C S hq2
        generalize (x + 4294967296 - 0 - k) % 4294967296 = dd at C S
        clear hbl
        go_wp2_with (first | (go_at_call 113; with_reducible refine (C.out _).mono ?_; rintro e w' ⟨rfl, rfl⟩))
        go_roundw
        case rel => exact ⟨i + 1, cc, by go_num, rfl, hq2, hlt, S⟩
        case measure => simp [intOf]; omega
    · obtain rfl : i = xs.length := by omega
      have hval : val zs = val xs - val ys := by
        have e2 := HV.out
        rw [← hzl, val_take_all (xs := zs) (k := zs.length) (Nat.le_refl _), hzl, val_take_all (xs := xs) (k := xs.length) (Nat.le_refl _), val_take_all (xs := ys) (k := xs.length) (by omega)] at e2
        have e3 := val_lt HZ.out
        rw [hzl] at e3
        have e4 := HVL.out
        rcases (by omega : k = 0 ∨ k = 1) with rfl | rfl
        · omega
        · generalize 4294967296 ^ xs.length = P at *
          omega
      have hown := hrow.ownL_cut (base := w.heap.size) (Nat.le_refl _) (by omega) HZ.out
      have htrim := fun V (e : V = wr) => exact_trim (some ⟨w.heap.size, 0, none⟩) zs.length zs HZ.out (Nat.le_refl _) (by omega) V.heap.size V (e ▸ hrow.reads)
      rw [hzl] at htrim hown
      have C := Hd (htrim wr rfl)
      have HO := Hd hown
      have HE := Hd hval
      have HB := Hd hb
      clear hown htrim hval HV HZ HX HY hrow hb
      go_wp2_with (first | (go_at_call 111; with_reducible refine C.out.mono ?_; rintro e w' ⟨rfl, rfl⟩))
      go_ret
      exact ⟨_, rfl, by rw [← HE.out]; exact HO.out, HB.out⟩
/- Bits of the references: a loop. -/

end Go.Proofs.YtmcnmoljliggfaaGreatDoor
