/- Several texts in one: Beyond, Twin, Cmp. -/
import Derived.Test.YtbdliabfdplohaaDoorBw02
import Derived.Test.YtbdliabfdplohaaDoorBwHd
import Derived.Test.YtbdliabfdplohaaDoorProg
import Derived.WalkKit
import Derived.WalkSpells
import Derived.WalkLawsBesides
import Derived.Lib.Hide
import Derived.Test.YtbdliabfdplohaaDoorBw09
set_option maxRecDepth 100000
set_option maxHeartbeats 8000000
/- Beyond: whether sizes, taken together, are too much to be copied. -/
namespace Go.Proofs.YtbdliabfdplohaaDoor
open Go.RowKit

def cellsI (zs : List Nat) : List Value := zs.map fun x : Nat => .int .i64 (x : Int)
theorem cellsI_length (zs : List Nat) : (cellsI zs).length = zs.length := by simp [cellsI]
theorem cellsI_get {zs : List Nat} {k : Nat} (h : k < zs.length) : (cellsI zs)[k]? = some (.int .i64 zs[k]) := by simp [cellsI, h]
theorem sum_take_le (zs : List Nat) (k : Nat) : (zs.take k).sum ≤ zs.sum := by
  have h := List.take_append_drop k zs
  have : zs.sum = (zs.take k).sum + (zs.drop k).sum := by rw [← List.sum_append, h]
  omega
theorem sum_take_more (zs : List Nat) (k : Nat) (h : k < zs.length) : (zs.take (k + 1)).sum = (zs.take k).sum + zs[k] := by
  rw [List.take_succ_eq_append_getElem h, List.sum_append]; simp

theorem beyond_any (A : Option Addr) (c : Nat) (zs : List Nat) (hz : zs.length ≤ 1000) (hm : ∀ z ∈ zs, z ≤ 1152921504606846976) (w : World) (B : Nat) (hr : Reads w B 1 A zs.length (cellsI zs)) :
    Calls Tryd.prog 5 #[.slice A zs.length c] w fun e w' => e = .returned (.bool (decide (1048576 < zs.sum))) ∧ w = w' := by
  have HR := Hd hr
  have HM := Hd hm
  clear hr hm
  go_enter Tryd.func5, Tryd.ntmps5
  go_wp2_with fail
  go_loop [3, 4] (fun n i => ∃ k s : Nat, i = .int .i64 k ∧ n = .int .i64 s ∧ k ≤ zs.length ∧ s = (zs.take k).sum ∧ s ≤ 1048576) (fun _ i => zs.length - (intOf i).toNat)
  case atStart => exact ⟨0, 0, rfl, rfl, Nat.zero_le _, rfl, by omega⟩
  case round =>
    obtain ⟨k, s, rfl, rfl, hk, hs, hle⟩ := hrel
    have HS := Hd hs
    clear hs
    by_cases hlt : k < zs.length
    · obtain ⟨ad, rfl, -, hc⟩ := HR.out.2 (by omega)
      have hcell := hc k _ (cellsI_get hlt)
      have hz1 := HM.out zs[k] (List.getElem_mem hlt)
      have hs2 := sum_take_more zs k hlt
      rw [← HS.out] at hs2
      have HS2 := Hd hs2
      clear hc hs2
      generalize zs[k] = z at *
      by_cases hbig : s + z ≤ 1048576
      · go_wp2_with fail
        go_round
        case rel => exact ⟨k + 1, s + z, by go_num, by go_num, hlt, HS2.out.symm, hbig⟩
        case measure => simp [intOf]; omega
      · have hd : decide (1048576 < zs.sum) = true := by
          have h1 := sum_take_le zs (k + 1)
          rw [HS2.out] at h1
          simp; omega
        have HD := Hd hd
        clear hd
        have hbig2 : 1048576 < (s : Int) + (z : Int) := by omega
        clear hbig
        go_wp2
        go_ret
        exact ⟨by rw [HD.out]; rfl, rfl⟩
    · have hd : decide (1048576 < zs.sum) = false := by
        have h1 := HS.out
        rw [List.take_of_length_le (by omega)] at h1
        simp; omega
      have HD := Hd hd
      clear hd
      go_wp2
      go_ret
      exact ⟨by rw [HD.out]; rfl, rfl⟩

/- Beyond, IntSize, TwinInt, LeftInt: what the statements copy, and whether a copy is still what it was made of. -/

structure TwinAt (w : World) (g : Nat) (xs : List Nat) : Prop where
  blk : Blk w g 40 (cellsU (xs ++ [7777])).toArray
theorem TwinAt.below {w w' : World} {g : Nat} {xs : List Nat} (h : TwinAt w g xs) (hb : Below w.heap.size w w') : TwinAt w' g xs := ⟨h.blk.below hb h.blk.lt⟩
theorem TwinAt.alloc {w : World} {g : Nat} {xs : List Nat} (h : TwinAt w g xs) (o : Obj) : TwinAt (w.alloc o) g xs := ⟨h.blk.alloc o⟩
theorem TwinAt.cell {w : World} {g : Nat} {xs : List Nat} (h : TwinAt w g xs) {k : Nat} (hk : k < xs.length) : w.cell? ⟨g, k, none⟩ = some (.int .u32 xs[k]) := by
  rw [h.blk.cell, List.getElem?_toArray, cellsU_get (by simp; omega), List.getElem_append_left hk]
theorem TwinAt.raw {w : World} {g : Nat} {xs : List Nat} (hx : Limbs xs) (hl : xs.length < 9223372036854775807) (h : TwinAt w g xs) : Raw w (some ⟨g, 0, none⟩) (xs.length + 1) xs := by
  refine ⟨hx, Nat.le_succ _, by omega, by rw [cellsU_length, Nat.mul_one], fun _ => ⟨⟨g, 0, none⟩, rfl, h.blk.lt, fun j u hu => ?_⟩⟩
  have hj : j < xs.length := by
    have := (List.getElem?_eq_some_iff.1 hu).1
    rwa [cellsU_length] at this
  rw [cellsU_get hj] at hu
  have e : (⟨g, 0, none⟩ : Addr).add j = ⟨g, j, none⟩ := by unfold Addr.add; split <;> simp_all
  rw [e, ← hu]
  exact h.cell hj

theorem TwinAt.of_own {w : World} {base g : Nat} {xs : List Nat} (h : w.ownsRow base 40 1 (.slice (some ⟨g, 0, none⟩) (xs.length + 1) (xs.length + 1)) (xs.length + 1) (cellsU xs ++ [.int .u32 7777])) : TwinAt w g xs := by
  rcases h.2 with ⟨h1, h2⟩ | ⟨g', cap, cur, h1, h2, h3, h4, h5, h6, h7⟩
  · omega
  · injection h1 with a1 a2 a3
    injection a1 with a1
    injection a1 with a1
    subst a1 a3
    refine ⟨?_⟩
    unfold Blk
    rw [h3]
    have e : cur.toList = cellsU (xs ++ [7777]) := by
      rw [List.take_of_length_le (by rw [Array.length_toList]; omega)] at h7
      rw [h7]; simp [cellsU]
    rw [← e]

/- Numbers held against one another. -/

def cmpv (a b : Nat) : Int := if a < b then -1 else if b < a then 1 else 0
theorem cmpv_lt {a b : Nat} (h : a < b) : cmpv a b = -1 := by simp [cmpv, h]
theorem cmpv_gt {a b : Nat} (h : b < a) : cmpv a b = 1 := by simp [cmpv, h]; omega
theorem cmpv_eq (a : Nat) : cmpv a a = 0 := by simp [cmpv]
theorem val_split {xs : List Nat} {k : Nat} (h : k < xs.length) : val xs = val (xs.take k) + 4294967296 ^ k * (xs[k] + 4294967296 * val (xs.drop (k + 1))) := by
  conv => lhs; rw [← List.take_append_drop k xs, val_append, List.drop_eq_getElem_cons h]
  rw [List.length_take, Nat.min_eq_left (by omega)]
  rfl
theorem val_top {xs ys : List Nat} (hx : Limbs xs) {k : Nat} (h1 : k < xs.length) (h2 : k < ys.length) (hd : xs.drop (k + 1) = ys.drop (k + 1)) (hlt : xs[k] < ys[k]) : val xs < val ys := by
  rw [val_split h1, val_split h2, hd]
  have ht := val_lt (limbs_take hx k)
  rw [List.length_take, Nat.min_eq_left (by omega)] at ht
  have hm : 4294967296 ^ k * (xs[k] + 4294967296 * val (ys.drop (k + 1)) + 1) ≤ 4294967296 ^ k * (ys[k] + 4294967296 * val (ys.drop (k + 1))) := Nat.mul_le_mul_left _ (by omega)
  rw [Nat.mul_add, Nat.mul_one] at hm
  omega
theorem drop_same {xs ys : List Nat} {k : Nat} (h1 : k < xs.length) (h2 : k < ys.length) (hd : xs.drop (k + 1) = ys.drop (k + 1)) (he : xs[k] = ys[k]) : xs.drop k = ys.drop k := by
  rw [List.drop_eq_getElem_cons h1, List.drop_eq_getElem_cons h2, hd, he]
theorem val_short {xs ys : List Nat} (hx : Limbs xs) (hy : Limbs ys) (hc : Canon ys) (hl : xs.length < ys.length) : val xs < val ys := by
  have h1 := val_lt hx
  rcases Nat.lt_or_ge (val ys) (4294967296 ^ (ys.length - 1)) with h | h
  · have := natL_length_le.2 h
    rw [natL_val hy hc] at this
    omega
  · have : 4294967296 ^ xs.length ≤ 4294967296 ^ (ys.length - 1) := Nat.pow_le_pow_right (by omega) (by omega)
    omega

theorem exact_size_same (A B : Option Addr) (c d : Nat) (xs ys : List Nat) (hlen : xs.length = ys.length) (w : World) (h : Raw w A c xs) (g : Raw w B d ys) :
    Calls Tryd.prog 68 #[.slice A xs.length c, .slice B ys.length d] w fun e w' => e = .returned (.int .i64 (cmpv (val xs) (val ys))) ∧ Below w.heap.size w w' := by
  have HX := Hd h
  have HY := Hd g
  have hm := h.most
  have hc := h.cap
  have HE := Hd hlen
  rw [← hlen]
  clear h g hlen
  go_enter Tryd.func68, Tryd.ntmps68
  go_wp2_with fail
  go_loopw [5] (fun i wr => ∃ k m : Nat, i = .int .i64 ((k : Int) - 1) ∧ k ≤ xs.length ∧ xs.drop k = ys.drop k ∧ wr = w.drewN m) (fun i _ => (intOf i + 1).toNat)
  case atStart => exact ⟨xs.length, 0, rfl, Nat.le_refl _, by rw [List.drop_length, HE.out, List.drop_length], rfl⟩
  case round =>
    obtain ⟨k, m, rfl, hk, hdrop, rfl⟩ := hrel
    have HD := Hd hdrop
    clear hdrop
    cases k with
    | zero =>
      have fin : cmpv (val xs) (val ys) = 0 := by
        have e : xs = ys := by simpa using HD.out
        rw [e]; exact cmpv_eq _
      have HF := Hd fin
      clear fin
      go_wp2
      go_ret
      exact ⟨by rw [HF.out]; rfl, below_drewN (Below.refl _ _) _⟩
    | succ k =>
      have h2 : k < ys.length := by rw [← HE.out]; omega
      obtain ⟨ad, rfl, hbl, hcell⟩ := HX.out.reads.get (k := k) (by omega)
      obtain ⟨bd, rfl, hbl2, hcell2⟩ := HY.out.reads.get h2
      have a0 : (0 : Int) ≤ (k : Int) := by omega
      have a1 : (k : Int) < (xs.length : Int) := by omega
      have ae : ((k + 1 : Nat) : Int) - 1 = (k : Int) := by omega
      rw [ae]
      have hcase : xs[k] = ys[k] ∨ xs[k] < ys[k] ∨ ys[k] < xs[k] := by omega
      rcases hcase with he | he | he
      · have HQ := Hd he
        rw [← he] at hcell2
        clear he ae
        generalize hz : xs[k] = z at hcell hcell2
        clear hz
        go_wp2_with fail
        go_quiet (fail)
        go_wp2_with fail
        go_roundw
        case rel => exact ⟨k, _, by go_num, by omega, drop_same (by omega) h2 HD.out HQ.out, rfl⟩
        case measure => simp [intOf]
      · have fin : cmpv (val xs) (val ys) = -1 := cmpv_lt (val_top HX.out.limbs (by omega) h2 HD.out he)
        have HF := Hd fin
        have hlt : (xs[k] : Int) < (ys[k] : Int) := by omega
        have hne : ((xs[k] : Int) == (ys[k] : Int)) = false := by simp; omega
        have hne2 : ((xs[k] : Int) != (ys[k] : Int)) = true := by simp; omega
        clear fin he ae
        generalize xs[k] = y at *
        generalize ys[k] = z at *
        go_wp2_with fail
        go_quiet (fail)
        go_wp2_with fail
        go_quiet (fail)
        go_wp2
        go_ret
        exact ⟨by rw [HF.out]; rfl, by repeat (first | exact Below.refl _ _ | apply below_drewN)⟩
      · have fin : cmpv (val xs) (val ys) = 1 := cmpv_gt (val_top HY.out.limbs h2 (by omega) HD.out.symm he)
        have HF := Hd fin
        have hlt : (ys[k] : Int) < (xs[k] : Int) := by omega
        have hne : ((xs[k] : Int) == (ys[k] : Int)) = false := by simp; omega
        have hne2 : ((xs[k] : Int) != (ys[k] : Int)) = true := by simp; omega
        clear fin he ae
        generalize xs[k] = y at *
        generalize ys[k] = z at *
        go_wp2_with fail
        go_quiet (fail)
        go_wp2_with fail
        go_quiet (fail)
        go_wp2
        go_ret
        exact ⟨by rw [HF.out]; rfl, by repeat (first | exact Below.refl _ _ | apply below_drewN)⟩
theorem exact_size_apart (A B : Option Addr) (c d n m : Nat) (hne : n ≠ m) (hn : n ≤ 4611686018427387904) (hm : m ≤ 4611686018427387904) (w : World) :
    Calls Tryd.prog 68 #[.slice A n c, .slice B m d] w fun e w' => e = .returned (.int .i64 ((n : Int) - (m : Int))) ∧ w = w' := by
  have h1 : ((n : Int) == (m : Int)) = false := by simp; omega
  have h2 : ((n : Int) != (m : Int)) = true := by simp; omega
  clear hne
  go_enter Tryd.func68, Tryd.ntmps68
  go_wp2
  go_ret
  exact ⟨rfl, rfl⟩
def SizeTold (xs ys : List Nat) (w : World) (e : Ending) (w' : World) : Prop :=
  ∃ z : Int, e = .returned (.int .i64 z) ∧ -4611686018427387904 ≤ z ∧ z ≤ 4611686018427387904 ∧ (val xs < val ys → z < 0) ∧ (val xs = val ys → z = 0) ∧ (val ys < val xs → 0 < z) ∧ Below w.heap.size w w'

theorem exact_size_any (A B : Option Addr) (c d : Nat) (xs ys : List Nat) (hcx : Canon xs) (hcy : Canon ys) (hn : xs.length ≤ 4611686018427387904) (hm : ys.length ≤ 4611686018427387904) (w : World) (h : Raw w A c xs) (g : Raw w B d ys) :
    Calls Tryd.prog 68 #[.slice A xs.length c, .slice B ys.length d] w (SizeTold xs ys w) := by
  by_cases hl : xs.length = ys.length
  · refine (exact_size_same A B c d xs ys hl w h g).mono fun e w' ⟨he, hb⟩ => ⟨_, he, ?_, ?_, ?_, ?_, ?_, hb⟩
    · unfold cmpv; split <;> (try split) <;> omega
    · unfold cmpv; split <;> (try split) <;> omega
    · intro h1; rw [cmpv_lt h1]; omega
    · intro h1; rw [h1, cmpv_eq]
    · intro h1; rw [cmpv_gt h1]; omega
  · refine (exact_size_apart A B c d _ _ hl hn hm w).mono fun e w' ⟨he, hw⟩ => ⟨_, he, by omega, by omega, ?_, ?_, ?_, hw ▸ Below.refl _ _⟩
    · intro h1
      rcases Nat.lt_or_ge xs.length ys.length with h2 | h2
      · omega
      · have := val_short g.limbs h.limbs hcx (show ys.length < xs.length by omega); omega
    · intro h1
      rcases Nat.lt_or_ge xs.length ys.length with h2 | h2
      · have := val_short h.limbs g.limbs hcy h2; omega
      · have := val_short g.limbs h.limbs hcx (show ys.length < xs.length by omega); omega
    · intro h1
      rcases Nat.lt_or_ge xs.length ys.length with h2 | h2
      · have := val_short h.limbs g.limbs hcy h2; omega
      · omega

end Go.Proofs.YtbdliabfdplohaaDoor
