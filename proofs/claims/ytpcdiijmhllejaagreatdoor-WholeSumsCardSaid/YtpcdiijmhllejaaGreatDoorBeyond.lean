/- Beyond: whether sizes, taken together, are too much to be copied. -/
import Derived.Test.YtpcdiijmhllejaaGreatDoorWords
import Derived.Test.YtpcdiijmhllejaaGreatDoorProg
import Derived.WalkKit
import Derived.WalkSpells
import Derived.WalkLawsBesides
import Derived.Lib.Hide
namespace Go.Proofs.YtpcdiijmhllejaaGreatDoor
open Go.RowKit

/-- Sizes as cells. -/
def cellsI (zs : List Nat) : List Value := zs.map fun x : Nat => .int .i64 (x : Int)
theorem cellsI_length (zs : List Nat) : (cellsI zs).length = zs.length := by simp [cellsI]
theorem cellsI_get {zs : List Nat} {k : Nat} (h : k < zs.length) : (cellsI zs)[k]? = some (.int .i64 zs[k]) := by simp [cellsI, h]
theorem sum_take_le (zs : List Nat) (k : Nat) : (zs.take k).sum ≤ zs.sum := by
  have h := List.take_append_drop k zs
  have : zs.sum = (zs.take k).sum + (zs.drop k).sum := by rw [← List.sum_append, h]
  omega
theorem sum_take_more (zs : List Nat) (k : Nat) (h : k < zs.length) : (zs.take (k + 1)).sum = (zs.take k).sum + zs[k] := by
  rw [List.take_succ_eq_append_getElem h, List.sum_append]; simp

set_option maxRecDepth 100000 in
set_option maxHeartbeats 1000000 in
theorem beyond_any (A : Option Addr) (c : Nat) (zs : List Nat) (hz : zs.length ≤ 1000) (hm : ∀ z ∈ zs, z ≤ 1152921504606846976) (w : World) (B : Nat) (hr : Reads w B 1 A zs.length (cellsI zs)) :
    Calls Tryz.prog 6 #[.slice A zs.length c] w fun e w' => e = .returned (.bool (decide (1048576 < zs.sum))) ∧ w = w' := by
  have HR := Lib.hid hr
  have HM := Lib.hid hm
  clear hr hm
  go_enter Tryz.func6, Tryz.ntmps6
  go_wp2_with fail
  go_loop [3, 4] (fun n i => ∃ k s : Nat, i = .int .i64 k ∧ n = .int .i64 s ∧ k ≤ zs.length ∧ s = (zs.take k).sum ∧ s ≤ 1048576) (fun _ i => zs.length - (intOf i).toNat)
  case atStart => exact ⟨0, 0, rfl, rfl, Nat.zero_le _, rfl, by omega⟩
  case round =>
    obtain ⟨k, s, rfl, rfl, hk, hs, hle⟩ := hrel
    have HS := Lib.hid hs
    clear hs
    by_cases hlt : k < zs.length
    · obtain ⟨ad, rfl, -, hc⟩ := HR.out.2 (by omega)
      have hcell := hc k _ (cellsI_get hlt)
      have hz1 := HM.out zs[k] (List.getElem_mem hlt)
      have hs2 := sum_take_more zs k hlt
      rw [← HS.out] at hs2
      have HS2 := Lib.hid hs2
      clear hc hs2
      generalize zs[k] = z at *
      by_cases hbig : s + z ≤ 1048576
      · go_wp2_with fail
        go_round
        case rel => exact ⟨k + 1, s + z, by go_num, by go_num, hlt, HS2.out.symm, hbig⟩
        case measure => simp [intOf]; omega
      · have hd : decide (1048576 < zs.sum) = true := by
          have h1 := sum_take_le zs (k + 1)
          rw [HS2.out] at h1
          simp; omega
        have HD := Lib.hid hd
        clear hd
        have hbig2 : 1048576 < (s : Int) + (z : Int) := by omega
        clear hbig
        go_wp2
        go_ret
        exact ⟨by rw [HD.out]; rfl, rfl⟩
    · have hd : decide (1048576 < zs.sum) = false := by
        have h1 := HS.out
        rw [List.take_of_length_le (by omega)] at h1
        simp; omega
      have HD := Lib.hid hd
      clear hd
      go_wp2
      go_ret
      exact ⟨by rw [HD.out]; rfl, rfl⟩

theorem beyond_one (z : Nat) (hz : z ≤ 1152921504606846976) (t : TypeId) (V : World) :
    Calls Tryz.prog 6 #[.slice (some ⟨V.heap.size, 0, none⟩) 1 1] (V.alloc (.cells #[.int .i64 (z : Int)] t)) fun e w' => e = .returned (.bool (decide (1048576 < z))) ∧ V.alloc (.cells #[.int .i64 (z : Int)] t) = w' := by
  refine (beyond_any (some ⟨V.heap.size, 0, none⟩) 1 [z] (by simp) (by intro y hy; simp at hy; omega) (V.alloc (.cells #[.int .i64 (z : Int)] t)) (V.heap.size + 1) (Reads.new1 V t 1 [.int .i64 (z : Int)] rfl)).mono ?_
  rintro e w' ⟨rfl, rfl⟩
  exact ⟨by rw [show [z].sum = z by simp], rfl⟩
end Go.Proofs.YtpcdiijmhllejaaGreatDoor
