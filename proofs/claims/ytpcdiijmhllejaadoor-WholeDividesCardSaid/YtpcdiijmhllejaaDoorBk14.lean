/- Several texts in one: Cmp. -/
import Derived.Test.YtpcdiijmhllejaaDoorBk13
/- Numbers held against one another. -/
namespace Go.Proofs.YtpcdiijmhllejaaDoor
open Go.RowKit

/-- -1, 0, 1. -/
def cmpv (a b : Nat) : Int := if a < b then -1 else if b < a then 1 else 0
theorem cmpv_lt {a b : Nat} (h : a < b) : cmpv a b = -1 := by simp [cmpv, h]
theorem cmpv_gt {a b : Nat} (h : b < a) : cmpv a b = 1 := by simp [cmpv, h]; omega
theorem cmpv_eq (a : Nat) : cmpv a a = 0 := by simp [cmpv]
theorem val_split {xs : List Nat} {k : Nat} (h : k < xs.length) : val xs = val (xs.take k) + 4294967296 ^ k * (xs[k] + 4294967296 * val (xs.drop (k + 1))) := by
  conv => lhs; rw [← List.take_append_drop k xs, val_append, List.drop_eq_getElem_cons h]
  rw [List.length_take, Nat.min_eq_left (by omega)]
  rfl
theorem val_top {xs ys : List Nat} (hx : Limbs xs) {k : Nat} (h1 : k < xs.length) (h2 : k < ys.length) (hd : xs.drop (k + 1) = ys.drop (k + 1)) (hlt : xs[k] < ys[k]) : val xs < val ys := by
  rw [val_split h1, val_split h2, hd]
  have ht := val_lt (limbs_take hx k)
  rw [List.length_take, Nat.min_eq_left (by omega)] at ht
  have hm : 4294967296 ^ k * (xs[k] + 4294967296 * val (ys.drop (k + 1)) + 1) ≤ 4294967296 ^ k * (ys[k] + 4294967296 * val (ys.drop (k + 1))) := Nat.mul_le_mul_left _ (by omega)
  rw [Nat.mul_add, Nat.mul_one] at hm
  omega
theorem drop_same {xs ys : List Nat} {k : Nat} (h1 : k < xs.length) (h2 : k < ys.length) (hd : xs.drop (k + 1) = ys.drop (k + 1)) (he : xs[k] = ys[k]) : xs.drop k = ys.drop k := by
  rw [List.drop_eq_getElem_cons h1, List.drop_eq_getElem_cons h2, hd, he]
/-- Shorter is less. -/
theorem val_short {xs ys : List Nat} (hx : Limbs xs) (hy : Limbs ys) (hc : Canon ys) (hl : xs.length < ys.length) : val xs < val ys := by
  have h1 := val_lt hx
  rcases Nat.lt_or_ge (val ys) (4294967296 ^ (ys.length - 1)) with h | h
  · have := natL_length_le.2 h
    rw [natL_val hy hc] at this
    omega
  · have : 4294967296 ^ xs.length ≤ 4294967296 ^ (ys.length - 1) := Nat.pow_le_pow_right (by omega) (by omega)
    omega

set_option maxRecDepth 100000 in
set_option maxHeartbeats 1000000 in
theorem exact_size_same (A B : Option Addr) (c d : Nat) (xs ys : List Nat) (hlen : xs.length = ys.length) (w : World) (h : Raw w A c xs) (g : Raw w B d ys) :
    Calls Tryd.prog 44 #[.slice A xs.length c, .slice B ys.length d] w fun e w' => e = .returned (.int .i64 (cmpv (val xs) (val ys))) ∧ Below w.heap.size w w' := by
  have HX := Lib.hid h
  have HY := Lib.hid g
  have hm := h.most
  have hc := h.cap
  have HE := Lib.hid hlen
  rw [← hlen]
  clear h g hlen
  go_enter Tryd.func44, Tryd.ntmps44
  go_wp2_with fail
  go_loopw [5] (fun i wr => ∃ k m : Nat, i = .int .i64 ((k : Int) - 1) ∧ k ≤ xs.length ∧ xs.drop k = ys.drop k ∧ wr = w.drewN m) (fun i _ => (intOf i + 1).toNat)
  case atStart => exact ⟨xs.length, 0, rfl, Nat.le_refl _, by rw [List.drop_length, HE.out, List.drop_length], rfl⟩
  case round =>
    obtain ⟨k, m, rfl, hk, hdrop, rfl⟩ := hrel
    have HD := Lib.hid hdrop
    clear hdrop
    cases k with
    | zero =>
      have fin : cmpv (val xs) (val ys) = 0 := by
        have e : xs = ys := by simpa using HD.out
        rw [e]; exact cmpv_eq _
      have HF := Lib.hid fin
      clear fin
      go_wp2
      go_ret
      exact ⟨by rw [HF.out]; rfl, below_drewN (Below.refl _ _) _⟩
    | succ k =>
      have h2 : k < ys.length := by rw [← HE.out]; omega
      obtain ⟨ad, rfl, hbl, hcell⟩ := HX.out.reads.get (k := k) (by omega)
      obtain ⟨bd, rfl, hbl2, hcell2⟩ := HY.out.reads.get h2
      have a0 : (0 : Int) ≤ (k : Int) := by omega
      have a1 : (k : Int) < (xs.length : Int) := by omega
      have ae : ((k + 1 : Nat) : Int) - 1 = (k : Int) := by omega
      rw [ae]
      have hcase : xs[k] = ys[k] ∨ xs[k] < ys[k] ∨ ys[k] < xs[k] := by omega
      rcases hcase with he | he | he
      · have HQ := Lib.hid he
        rw [← he] at hcell2
        clear he ae
        generalize hz : xs[k] = z at hcell hcell2
        clear hz
        go_wp2_with fail
        go_quiet (fail)
        go_wp2_with fail
        go_roundw
        case rel => exact ⟨k, _, by go_num, by omega, drop_same (by omega) h2 HD.out HQ.out, rfl⟩
        case measure => simp [intOf]
      · have fin : cmpv (val xs) (val ys) = -1 := cmpv_lt (val_top HX.out.limbs (by omega) h2 HD.out he)
        have HF := Lib.hid fin
        have hlt : (xs[k] : Int) < (ys[k] : Int) := by omega
        have hne : ((xs[k] : Int) == (ys[k] : Int)) = false := by simp; omega
        have hne2 : ((xs[k] : Int) != (ys[k] : Int)) = true := by simp; omega
        clear fin he ae
        generalize xs[k] = y at *
        generalize ys[k] = z at *
        go_wp2_with fail
        go_quiet (fail)
        go_wp2_with fail
        go_quiet (fail)
        go_wp2
        go_ret
        exact ⟨by rw [HF.out]; rfl, by repeat (first | exact Below.refl _ _ | apply below_drewN)⟩
      · have fin : cmpv (val xs) (val ys) = 1 := cmpv_gt (val_top HY.out.limbs h2 (by omega) HD.out.symm he)
        have HF := Lib.hid fin
        have hlt : (ys[k] : Int) < (xs[k] : Int) := by omega
        have hne : ((xs[k] : Int) == (ys[k] : Int)) = false := by simp; omega
        have hne2 : ((xs[k] : Int) != (ys[k] : Int)) = true := by simp; omega
        clear fin he ae
        generalize xs[k] = y at *
        generalize ys[k] = z at *
        go_wp2_with fail
        go_quiet (fail)
        go_wp2_with fail
        go_quiet (fail)
        go_wp2
        go_ret
        exact ⟨by rw [HF.out]; rfl, by repeat (first | exact Below.refl _ _ | apply below_drewN)⟩
set_option maxRecDepth 100000 in
set_option maxHeartbeats 400000 in
theorem exact_size_apart (A B : Option Addr) (c d n m : Nat) (hne : n ≠ m) (hn : n ≤ 4611686018427387904) (hm : m ≤ 4611686018427387904) (w : World) :
    Calls Tryd.prog 44 #[.slice A n c, .slice B m d] w fun e w' => e = .returned (.int .i64 ((n : Int) - (m : Int))) ∧ w = w' := by
  have h1 : ((n : Int) == (m : Int)) = false := by simp; omega
  have h2 : ((n : Int) != (m : Int)) = true := by simp; omega
  clear hne
  go_enter Tryd.func44, Tryd.ntmps44
  go_wp2
  go_ret
  exact ⟨rfl, rfl⟩
/-- Limbs held against limbs: less, the same, more. -/
def SizeTold (xs ys : List Nat) (w : World) (e : Ending) (w' : World) : Prop :=
  ∃ z : Int, e = .returned (.int .i64 z) ∧ -4611686018427387904 ≤ z ∧ z ≤ 4611686018427387904 ∧ (val xs < val ys → z < 0) ∧ (val xs = val ys → z = 0) ∧ (val ys < val xs → 0 < z) ∧ Below w.heap.size w w'

theorem exact_size_any (A B : Option Addr) (c d : Nat) (xs ys : List Nat) (hcx : Canon xs) (hcy : Canon ys) (hn : xs.length ≤ 4611686018427387904) (hm : ys.length ≤ 4611686018427387904) (w : World) (h : Raw w A c xs) (g : Raw w B d ys) :
    Calls Tryd.prog 44 #[.slice A xs.length c, .slice B ys.length d] w (SizeTold xs ys w) := by
  by_cases hl : xs.length = ys.length
  · refine (exact_size_same A B c d xs ys hl w h g).mono fun e w' ⟨he, hb⟩ => ⟨_, he, ?_, ?_, ?_, ?_, ?_, hb⟩
    · unfold cmpv; split <;> (try split) <;> omega
    · unfold cmpv; split <;> (try split) <;> omega
    · intro h1; rw [cmpv_lt h1]; omega
    · intro h1; rw [h1, cmpv_eq]
    · intro h1; rw [cmpv_gt h1]; omega
  · refine (exact_size_apart A B c d _ _ hl hn hm w).mono fun e w' ⟨he, hw⟩ => ⟨_, he, by omega, by omega, ?_, ?_, ?_, hw ▸ Below.refl _ _⟩
    · intro h1
      rcases Nat.lt_or_ge xs.length ys.length with h2 | h2
      · omega
      · have := val_short g.limbs h.limbs hcx (show ys.length < xs.length by omega); omega
    · intro h1
      rcases Nat.lt_or_ge xs.length ys.length with h2 | h2
      · have := val_short h.limbs g.limbs hcy h2; omega
      · have := val_short g.limbs h.limbs hcx (show ys.length < xs.length by omega); omega
    · intro h1
      rcases Nat.lt_or_ge xs.length ys.length with h2 | h2
      · have := val_short h.limbs g.limbs hcy h2; omega
      · omega

end Go.Proofs.YtpcdiijmhllejaaDoor
