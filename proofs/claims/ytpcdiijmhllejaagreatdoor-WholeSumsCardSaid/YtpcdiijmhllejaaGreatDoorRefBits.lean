/- Bits of the references: a loop. -/
import Derived.Test.YtpcdiijmhllejaaGreatDoorRefOf
namespace Go.Proofs.YtpcdiijmhllejaaGreatDoor
open Go.RowKit

theorem bitLen_step (y : Nat) (h0 : y ≠ 0) (h : y < 4294967296) : Lib.bitLen y = Lib.bitLen (y / 2) + 1 := by
  rw [Lib.bitLen_half y h0 (by omega)]; omega

set_option maxRecDepth 100000 in
set_option maxHeartbeats 1000000 in
theorem ref_Bits_more (neg : Bool) (A : Option Addr) (c : Nat) (xs : List Nat) (w : World) (h : Raw w A c xs) (k : Nat) (hk : xs.length = k + 1) (hl : xs.length ≤ 268435456) :
    Calls Tryz.prog 160 #[.agg #[.bool neg, .slice A xs.length c]] w fun e w' => e = .returned (.int .i64 (32 * (k : Int) + (Lib.bitLen (xs[k]) : Nat))) ∧ Below w.heap.size w w' := by
  have h1 := h.cap
  have h2 := h.most
  have hlim := limbs_get h.limbs (k := k) (by omega)
  obtain ⟨ad, rfl, hbl, hcell⟩ := h.reads.get (k := k) (by omega)
  have hbk : (ad.add k).block < w.heap.size := by rw [block_of_add]; exact hbl
  generalize xs[k] = y at hcell hlim ⊢
  rw [hk] at h1 hl ⊢
  clear h hk
  have hy := bitLen_le64 y
  go_enter Tryz.func160, Tryz.ntmps160
  go_wp2_with fail
  go_loop [3, 4] (fun n t => ∃ z : Nat, t = .int .u32 z ∧ z ≤ y ∧ Lib.bitLen z ≤ Lib.bitLen y ∧ n = .int .i64 (32 * (k : Int) + ((Lib.bitLen y - Lib.bitLen z : Nat) : Int))) (fun _ t => (intOf t).toNat)
  case atStart => exact ⟨y, rfl, Nat.le_refl _, Nat.le_refl _, by rw [Nat.sub_self]; simp⟩
  case round =>
    obtain ⟨z, rfl, hz, hle, rfl⟩ := hrel
    by_cases h0 : z = 0
    · subst h0
      go_wp2_with fail
      go_ret
      exact ⟨rfl, by repeat (first | exact Below.refl _ _ | refine Below.alloc ?_ (by simp; try omega) _)⟩
    · have hpos : 0 < z := by omega
      have hs := bitLen_step z h0 (by omega)
      have HS := Lib.hid hs
      have e : 32 * (k : Int) + ((Lib.bitLen y - Lib.bitLen z : Nat) : Int) + 1 = 32 * (k : Int) + ((Lib.bitLen y - Lib.bitLen (z / 2) : Nat) : Int) := by omega
      have HE := Lib.hid e
      have hl2 : Lib.bitLen (z / 2) ≤ Lib.bitLen y := by omega
      have hlz : Lib.bitLen y - Lib.bitLen z ≤ 64 := by omega
      clear hs e h0
      generalize Lib.bitLen y - Lib.bitLen z = d at *
      go_wp2_with fail
      go_round
      case rel => exact ⟨z / 2, by go_num, by omega, hl2, by rw [HE.out]⟩
      case measure => simp [intOf]; omega

set_option maxRecDepth 100000 in
set_option maxHeartbeats 400000 in
theorem ref_Bits_any (neg : Bool) (A : Option Addr) (c : Nat) (xs : List Nat) (w : World) (h : Raw w A c xs) (hl : xs.length ≤ 268435456) :
    Calls Tryz.prog 160 #[.agg #[.bool neg, .slice A xs.length c]] w fun e w' => e = .returned (.int .i64 (bitsI xs)) ∧ Below w.heap.size w w' := by
  rcases Nat.eq_zero_or_pos xs.length with h0 | h0
  · have e : (bitsI xs : Int) = 0 := by simp [bitsI, h0]
    rw [e, h0]
    clear h h0 hl e
    go_enter Tryz.func160, Tryz.ntmps160
    go_wp2
    go_ret
    exact ⟨rfl, by repeat (first | exact Below.refl _ _ | apply below_drewN | refine Below.alloc ?_ (by simp; try omega) _)⟩
  · obtain ⟨k, hk⟩ : ∃ k, xs.length = k + 1 := ⟨xs.length - 1, by omega⟩
    have e : (bitsI xs : Int) = 32 * (k : Int) + (Lib.bitLen (xs[k]) : Nat) := by
      simp [bitsI, hk, getLast_get hk]
    rw [e]
    exact ref_Bits_more neg A c xs w h k hk hl
end Go.Proofs.YtpcdiijmhllejaaGreatDoor
