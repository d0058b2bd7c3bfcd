/- Limbs in memory; trim, signed. -/
import Derived.Test.YtpcdiijmhllejaaGreatDoorLimbs
import Derived.Test.YtpcdiijmhllejaaGreatDoorWords
import Derived.Test.YtpcdiijmhllejaaGreatDoorProg
import Derived.WalkKit
import Derived.WalkSpells
import Derived.WalkLawsBesides
import Derived.Lib.Hide
namespace Go.Proofs.YtpcdiijmhllejaaGreatDoor
open Go.RowKit

/-- Limbs as cells. -/
def cellsU (xs : List Nat) : List Value := xs.map fun x : Nat => .int .u32 (x : Int)
theorem cellsU_length (xs : List Nat) : (cellsU xs).length = xs.length := by simp [cellsU]
theorem cellsU_get {xs : List Nat} {k : Nat} (h : k < xs.length) : (cellsU xs)[k]? = some (.int .u32 xs[k]) := by simp [cellsU, h]
theorem cellsU_take (xs : List Nat) (k : Nat) : cellsU (xs.take k) = (cellsU xs).take k := by simp [cellsU, List.map_take]
abbrev ReadsU (w : World) (B : Nat) (A : Option Addr) (xs : List Nat) : Prop := Reads w B 1 A xs.length (cellsU xs)
theorem ReadsU.get {w : World} {B : Nat} {A : Option Addr} {xs : List Nat} (h : ReadsU w B A xs) {k : Nat} (hk : k < xs.length) :
    ∃ ad, A = some ad ∧ ad.block < B ∧ w.cell? (ad.add k) = some (.int .u32 xs[k]) := by
  obtain ⟨ad, e, hb, hc⟩ := h.2 (by omega)
  exact ⟨ad, e, hb, hc k _ (cellsU_get hk)⟩
theorem ReadsU.take {w : World} {B : Nat} {A : Option Addr} {xs : List Nat} (h : ReadsU w B A xs) (k : Nat) : ReadsU w B A (xs.take k) := by
  refine ⟨by rw [cellsU_length]; simp, fun hn => ?_⟩
  obtain ⟨ad, e, hb, hc⟩ := h.2 (by simp at hn; omega)
  refine ⟨ad, e, hb, fun j u hu => hc j u ?_⟩
  rw [cellsU_take, List.getElem?_take] at hu
  split at hu
  · exact hu
  · cases hu

/-- How long a slice is: for a loop's measure. -/
def lenOf : Value → Nat
  | .slice _ k _ => k
  | _ => 0

set_option maxRecDepth 100000 in
set_option maxHeartbeats 1000000 in
theorem exact_trim (A : Option Addr) (c : Nat) (xs : List Nat) (hx : Limbs xs) (hc : xs.length ≤ c) (hm : c ≤ 9223372036854775807) (B : Nat) (w : World) (hr : ReadsU w B A xs) :
    Calls Tryz.prog 156 #[.slice A xs.length c] w fun e w' => e = .returned (.slice A (natL (val xs)).length c) ∧ w = w' := by
  have HR := Lib.hid hr
  have HX := Lib.hid hx
  clear hr hx
  go_enter Tryz.func156, Tryz.ntmps156
  go_wp2_with fail
  go_loop [0] (fun v => ∃ k : Nat, v = .slice A k c ∧ k ≤ xs.length ∧ natL (val (xs.take k)) = natL (val xs)) (fun v => lenOf v)
  case atStart => exact ⟨xs.length, rfl, Nat.le_refl _, by rw [List.take_length]⟩
  case round =>
    obtain ⟨k, rfl, hk, hv⟩ := hrel
    have HV := Lib.hid hv
    clear hv
    cases k with
    | zero =>
      go_wp2_with fail
      go_ret
      exact ⟨by rw [← HV.out]; rfl, rfl⟩
    | succ k =>
      obtain ⟨ad, rfl, -, hcell⟩ := HR.out.get (k := k) (by omega)
      by_cases h0 : xs[k] = 0
      · have HZ := Lib.hid h0
        rw [h0] at hcell
        clear h0
        go_wp2_with fail
        go_round
        case rel => exact ⟨k, rfl, by omega, by rw [← natL_take_nought (by omega) HZ.out]; exact HV.out⟩
        case measure => simp [lenOf]
      · have hb : ((xs[k] : Int) == 0) = false := by simp; omega
        have HZ := Lib.hid h0
        clear h0
        go_wp2_with fail
        go_ret
        refine ⟨?_, rfl⟩
        have e := HV.out
        rw [natL_val (limbs_take HX.out _) (canon_of_get (by omega) HZ.out)] at e
        rw [← e, List.length_take, Nat.min_eq_left hk]; rfl
end Go.Proofs.YtpcdiijmhllejaaGreatDoor
