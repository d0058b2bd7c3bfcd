/- Several texts in one: Same, Beyond. -/
import Derived.Test.YtbdliabfdplohaaDoorBt13
import Derived.Test.YtbdliabfdplohaaDoorBtHd
import Derived.Test.YtbdliabfdplohaaDoorBt02
import Derived.Test.YtbdliabfdplohaaDoorProg
import Derived.WalkKit
import Derived.WalkSpells
import Derived.WalkLawsBesides
import Derived.Lib.Hide
set_option maxRecDepth 100000
set_option maxHeartbeats 8000000
/- SameInt: the same sign, the same limbs. -/
namespace Go.Proofs.YtbdliabfdplohaaDoor
open Go.RowKit

theorem take_more_eq {xs ys : List Nat} {k : Nat} (hx : k < xs.length) (hy : k < ys.length) (h : xs.take k = ys.take k) (e : xs[k] = ys[k]) : xs.take (k + 1) = ys.take (k + 1) := by
  rw [List.take_succ_eq_append_getElem hx, List.take_succ_eq_append_getElem hy, h, e]

theorem same_loop (neg : Bool) (A B : Option Addr) (c d : Nat) (xs ys : List Nat) (hlen : xs.length = ys.length) (w : World) (h : Raw w A c xs) (g : Raw w B d ys) :
    Calls Tryd.prog 16 #[.agg #[.bool neg, .slice A xs.length c], .agg #[.bool neg, .slice B ys.length d]] w fun e w' => e = .returned (.bool (decide (xs = ys))) ∧ Below w.heap.size w w' := by
  have HX := Hd h
  have HY := Hd g
  have hm := h.most
  have hc := h.cap
  have HE := Hd hlen
  rw [← hlen]
  clear h g hlen
  go_enter Tryd.func16, Tryd.ntmps16
  go_wp2_with fail
  go_loopw [5] (fun i wr => ∃ k m : Nat, i = .int .i64 k ∧ k ≤ xs.length ∧ xs.take k = ys.take k ∧ wr = ((w.alloc (.cells #[.bool neg, .slice A xs.length c] 24)).alloc (.cells #[.bool neg, .slice B xs.length d] 24)).drewN m) (fun i _ => xs.length - (intOf i).toNat)
  case atStart => exact ⟨0, 0, rfl, Nat.zero_le _, rfl, rfl⟩
  case round =>
    obtain ⟨k, m, rfl, hk, htake, rfl⟩ := hrel
    have HT := Hd htake
    clear htake
    by_cases hlt : k < xs.length
    · have hlt2 : k < ys.length := by rw [← HE.out]; exact hlt
      obtain ⟨ad, rfl, hbl, hcell⟩ := HX.out.reads.get hlt
      obtain ⟨bd, rfl, hbl2, hcell2⟩ := HY.out.reads.get hlt2
      have hbk : (ad.add k).block < w.heap.size := by rw [block_of_add]; exact hbl
      have hbk2 : (bd.add k).block < w.heap.size := by rw [block_of_add]; exact hbl2
      have a0 : (0 : Int) ≤ (k : Int) := by omega
      have a1 : (k : Int) < (xs.length : Int) := by omega
      by_cases he : xs[k] = ys[k]
      · have HQ := Hd he
        rw [← he] at hcell2
        generalize hz : xs[k] = z at hcell hcell2
        clear he hz
        go_wp2_with fail
        go_quiet (fail)
        go_wp2_with fail
        go_roundw
        case rel => exact ⟨k + 1, _, by go_num, hlt, take_more_eq hlt hlt2 HT.out HQ.out, rfl⟩
        case measure => simp [intOf]; omega
      · have hne : ((xs[k] : Int) == (ys[k] : Int)) = false := by simp; omega
        have hne2 : ((xs[k] : Int) != (ys[k] : Int)) = true := by simp; omega
        have hd : decide (xs = ys) = false := by simp; rintro rfl; exact he rfl
        have HD := Hd hd
        clear hd
        have HQ := Hd he
        clear he
        generalize xs[k] = y at *
        generalize ys[k] = z at *
        go_wp2_with fail
        go_quiet (fail)
        go_wp2
        go_ret
        exact ⟨by rw [HD.out]; rfl, by repeat (first | exact Below.refl _ _ | apply below_drewN | refine Below.alloc ?_ (by simp; try omega) _)⟩
    · have hd : decide (xs = ys) = true := by
        have e := HT.out
        rw [List.take_of_length_le (by omega), List.take_of_length_le (by rw [← HE.out]; omega)] at e
        simp [e]
      have HD := Hd hd
      clear hd
      go_wp2
      go_ret
      exact ⟨by rw [HD.out]; rfl, by repeat (first | exact Below.refl _ _ | apply below_drewN | refine Below.alloc ?_ (by simp; try omega) _)⟩

theorem same_sign (n1 n2 : Bool) (hn : n1 ≠ n2) (A B : Option Addr) (c d n m : Nat) (w : World) :
    Calls Tryd.prog 16 #[.agg #[.bool n1, .slice A n c], .agg #[.bool n2, .slice B m d]] w fun e w' => e = .returned (.bool false) ∧ Below w.heap.size w w' := by
  cases n1 <;> cases n2
  · exact absurd rfl hn
  · clear hn
    go_enter Tryd.func16, Tryd.ntmps16
    go_wp2
    go_ret
    exact ⟨rfl, by repeat (first | exact Below.refl _ _ | apply below_drewN | refine Below.alloc ?_ (by simp; try omega) _)⟩
  · clear hn
    go_enter Tryd.func16, Tryd.ntmps16
    go_wp2
    go_ret
    exact ⟨rfl, by repeat (first | exact Below.refl _ _ | apply below_drewN | refine Below.alloc ?_ (by simp; try omega) _)⟩
  · exact absurd rfl hn

theorem same_length (neg : Bool) (A B : Option Addr) (c d n m : Nat) (hn : n ≠ m) (w : World) :
    Calls Tryd.prog 16 #[.agg #[.bool neg, .slice A n c], .agg #[.bool neg, .slice B m d]] w fun e w' => e = .returned (.bool false) ∧ Below w.heap.size w w' := by
  have h1 : ((n : Int) == (m : Int)) = false := by simp; omega
  have h2 : ((n : Int) != (m : Int)) = true := by simp; omega
  clear hn
  go_enter Tryd.func16, Tryd.ntmps16
  go_wp2
  go_ret
  exact ⟨rfl, by repeat (first | exact Below.refl _ _ | apply below_drewN | refine Below.alloc ?_ (by simp; try omega) _)⟩

theorem same_any (n1 n2 : Bool) (A B : Option Addr) (c d : Nat) (xs ys : List Nat) (w : World) (h : Raw w A c xs) (g : Raw w B d ys) :
    Calls Tryd.prog 16 #[.agg #[.bool n1, .slice A xs.length c], .agg #[.bool n2, .slice B ys.length d]] w fun e w' => e = .returned (.bool (decide (n1 = n2 ∧ xs = ys))) ∧ Below w.heap.size w w' := by
  by_cases hn : n1 = n2
  · subst hn
    by_cases hl : xs.length = ys.length
    · have e : decide (n1 = n1 ∧ xs = ys) = decide (xs = ys) := by simp
      rw [e]
      exact same_loop n1 A B c d xs ys hl w h g
    · have e : decide (n1 = n1 ∧ xs = ys) = false := by simp; rintro rfl; exact hl rfl
      rw [e]
      exact same_length n1 A B c d _ _ hl w
  · have e : decide (n1 = n2 ∧ xs = ys) = false := by simp [hn]
    rw [e]
    exact same_sign n1 n2 hn A B c d _ _ w
/- Beyond: whether sizes, taken together, are too much to be copied. -/

def cellsI (zs : List Nat) : List Value := zs.map fun x : Nat => .int .i64 (x : Int)
theorem cellsI_length (zs : List Nat) : (cellsI zs).length = zs.length := by simp [cellsI]
theorem cellsI_get {zs : List Nat} {k : Nat} (h : k < zs.length) : (cellsI zs)[k]? = some (.int .i64 zs[k]) := by simp [cellsI, h]
theorem sum_take_le (zs : List Nat) (k : Nat) : (zs.take k).sum ≤ zs.sum := by
  have h := List.take_append_drop k zs
  have : zs.sum = (zs.take k).sum + (zs.drop k).sum := by rw [← List.sum_append, h]
  omega
theorem sum_take_more (zs : List Nat) (k : Nat) (h : k < zs.length) : (zs.take (k + 1)).sum = (zs.take k).sum + zs[k] := by
  rw [List.take_succ_eq_append_getElem h, List.sum_append]; simp

theorem beyond_any (A : Option Addr) (c : Nat) (zs : List Nat) (hz : zs.length ≤ 1000) (hm : ∀ z ∈ zs, z ≤ 1152921504606846976) (w : World) (B : Nat) (hr : Reads w B 1 A zs.length (cellsI zs)) :
    Calls Tryd.prog 5 #[.slice A zs.length c] w fun e w' => e = .returned (.bool (decide (1048576 < zs.sum))) ∧ w = w' := by
  have HR := Hd hr
  have HM := Hd hm
  clear hr hm
  go_enter Tryd.func5, Tryd.ntmps5
  go_wp2_with fail
  go_loop [3, 4] (fun n i => ∃ k s : Nat, i = .int .i64 k ∧ n = .int .i64 s ∧ k ≤ zs.length ∧ s = (zs.take k).sum ∧ s ≤ 1048576) (fun _ i => zs.length - (intOf i).toNat)
  case atStart => exact ⟨0, 0, rfl, rfl, Nat.zero_le _, rfl, by omega⟩
  case round =>
    obtain ⟨k, s, rfl, rfl, hk, hs, hle⟩ := hrel
    have HS := Hd hs
    clear hs
    by_cases hlt : k < zs.length
    · obtain ⟨ad, rfl, -, hc⟩ := HR.out.2 (by omega)
      have hcell := hc k _ (cellsI_get hlt)
      have hz1 := HM.out zs[k] (List.getElem_mem hlt)
      have hs2 := sum_take_more zs k hlt
      rw [← HS.out] at hs2
      have HS2 := Hd hs2
      clear hc hs2
      generalize zs[k] = z at *
      by_cases hbig : s + z ≤ 1048576
      · go_wp2_with fail
        go_round
        case rel => exact ⟨k + 1, s + z, by go_num, by go_num, hlt, HS2.out.symm, hbig⟩
        case measure => simp [intOf]; omega
      · have hd : decide (1048576 < zs.sum) = true := by
          have h1 := sum_take_le zs (k + 1)
          rw [HS2.out] at h1
          simp; omega
        have HD := Hd hd
        clear hd
        have hbig2 : 1048576 < (s : Int) + (z : Int) := by omega
        clear hbig
        go_wp2
        go_ret
        exact ⟨by rw [HD.out]; rfl, rfl⟩
    · have hd : decide (1048576 < zs.sum) = false := by
        have h1 := HS.out
        rw [List.take_of_length_le (by omega)] at h1
        simp; omega
      have HD := Hd hd
      clear hd
      go_wp2
      go_ret
      exact ⟨by rw [HD.out]; rfl, rfl⟩

end Go.Proofs.YtbdliabfdplohaaDoor
