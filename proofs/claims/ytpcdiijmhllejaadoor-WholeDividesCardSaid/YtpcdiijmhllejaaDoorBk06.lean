/- Several texts in one: Sign, RefOf. -/
import Derived.Test.YtpcdiijmhllejaaDoorBk05
import Derived.Deep.RegionHeld3
import Derived.IntWalk
import Derived.Deep.QuietTactic
import Derived.BigQuiet
/- Sign, Bits: of whatever limbs come in. -/
namespace Go.Proofs.YtpcdiijmhllejaaDoor
open Go.RowKit

def sgnI (neg : Bool) (xs : List Nat) : Int := if xs.length = 0 then 0 else if neg then -1 else 1
def bitsI (xs : List Nat) : Nat := if xs.length = 0 then 0 else 32 * (xs.length - 1) + Lib.bitLen (xs.getLast?.getD 0)


set_option maxRecDepth 100000 in
set_option maxHeartbeats 400000 in
theorem exact_Sign_any (neg : Bool) (A : Option Addr) (c : Nat) (xs : List Nat) (w : World) (h : Raw w A c xs) :
    Calls Tryd.prog 33 #[.agg #[.bool neg, .slice A xs.length c]] w fun e w' => e = .returned (.int .i64 (sgnI neg xs)) ∧ Below w.heap.size w w' := by
  have h1 := h.cap
  have h2 := h.most
  clear h
  unfold sgnI
  generalize xs.length = n at *
  by_cases h0 : n = 0
  · subst h0
    rw [if_pos rfl]
    go_enter Tryd.func33, Tryd.ntmps33
    go_wp2
    go_ret
    exact ⟨rfl, by repeat (first | exact Below.refl _ _ | apply Below.drew | refine Below.alloc ?_ (by simp; try omega) _)⟩
  · rw [if_neg h0]
    have hb : ((n : Int) == 0) = false := by simp; omega
    clear h0
    cases neg
    · rw [if_neg (by simp)]
      go_enter Tryd.func33, Tryd.ntmps33
      go_wp2
      go_ret
      exact ⟨rfl, by repeat (first | exact Below.refl _ _ | apply Below.drew | refine Below.alloc ?_ (by simp; try omega) _)⟩
    · rw [if_pos rfl]
      go_enter Tryd.func33, Tryd.ntmps33
      go_wp2
      go_ret
      exact ⟨rfl, by repeat (first | exact Below.refl _ _ | apply Below.drew | refine Below.alloc ?_ (by simp; try omega) _)⟩


set_option maxRecDepth 100000 in
set_option maxHeartbeats 400000 in
theorem exact_Bits_more (neg : Bool) (A : Option Addr) (c : Nat) (xs : List Nat) (w : World) (h : Raw w A c xs) (k : Nat) (hk : xs.length = k + 1) (hl : xs.length ≤ 268435456) :
    Calls Tryd.prog 36 #[.agg #[.bool neg, .slice A xs.length c]] w fun e w' => e = .returned (.int .i64 (32 * (k : Int) + (Lib.bitLen (xs[k]) : Nat))) ∧ Below w.heap.size w w' := by
  have h1 := h.cap
  have h2 := h.most
  have hlim := limbs_get h.limbs (k := k) (by omega)
  obtain ⟨ad, rfl, hbl, hcell⟩ := h.reads.get (k := k) (by omega)
  have hbk : (ad.add k).block < w.heap.size := by rw [block_of_add]; exact hbl
  generalize xs[k] = y at hcell hlim ⊢
  rw [hk] at h1 hl ⊢
  clear h hk
  have hy := bla_le 64 y
  have e1 : IntKind.i64.wrap ((k : Int) + 1 - 1) = (k : Int) := by rw [IntWalk.i64_in _ (by omega)]; omega
  have e2 : IntKind.i64.wrap (32 * (k : Int)) = 32 * (k : Int) := IntWalk.i64_in _ (by omega)
  have e3 : IntKind.i64.wrap (32 * (k : Int) + (Lib.bitLen y : Nat)) = 32 * (k : Int) + (Lib.bitLen y : Nat) := IntWalk.i64_in _ (by unfold Lib.bitLen; omega)
  have a0 : (0 : Int) ≤ (k : Int) := by omega
  have a1 : (k : Int) < (k : Int) + 1 := by omega
  have a2 : (k : Int) + 1 - 1 = (k : Int) := by omega
  have a3 : (0 : Int) ≤ (y : Int) := by omega
  have a4 : (y : Int) ≤ 4294967295 := by omega
  go_enter Tryd.func36, Tryd.ntmps36
  go_wp2_with fail
  go_quiet ((go_at_call 50; exact Calls.quiet_of_same (Tryd.bits_Len32 _ _ (by omega) (by omega))))
  go_wp2
  go_ret
  exact ⟨rfl, by repeat (first | exact Below.refl _ _ | apply below_drewN | refine Below.alloc ?_ (by simp; try omega) _)⟩

set_option maxRecDepth 100000 in
set_option maxHeartbeats 400000 in
theorem exact_Bits_any (neg : Bool) (A : Option Addr) (c : Nat) (xs : List Nat) (w : World) (h : Raw w A c xs) (hl : xs.length ≤ 268435456) :
    Calls Tryd.prog 36 #[.agg #[.bool neg, .slice A xs.length c]] w fun e w' => e = .returned (.int .i64 (bitsI xs)) ∧ Below w.heap.size w w' := by
  rcases Nat.eq_zero_or_pos xs.length with h0 | h0
  · have e : (bitsI xs : Int) = 0 := by simp [bitsI, h0]
    rw [e, h0]
    clear h h0 hl e
    go_enter Tryd.func36, Tryd.ntmps36
    go_wp2
    go_ret
    exact ⟨rfl, by repeat (first | exact Below.refl _ _ | apply below_drewN | refine Below.alloc ?_ (by simp; try omega) _)⟩
  · obtain ⟨k, hk⟩ : ∃ k, xs.length = k + 1 := ⟨xs.length - 1, by omega⟩
    have e : (bitsI xs : Int) = 32 * (k : Int) + (Lib.bitLen (xs[k]) : Nat) := by
      simp [bitsI, hk, getLast_get hk]
    rw [e]
    exact exact_Bits_more neg A c xs w h k hk hl
end Go.Proofs.YtpcdiijmhllejaaDoor

/- trim, signed, Of of the references. -/
namespace Go.Proofs.YtpcdiijmhllejaaDoor
open Go.RowKit

theorem limbInfo : (Tryd.prog.info? 48).map (fun i => (i.zero, i.size, i.bytes)) = some (some (.int .u32 0), 1, 4) := by kernel_rfl

end Go.Proofs.YtpcdiijmhllejaaDoor
