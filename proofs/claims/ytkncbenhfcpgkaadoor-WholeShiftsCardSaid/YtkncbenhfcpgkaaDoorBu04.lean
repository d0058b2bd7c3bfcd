/- Several texts in one: Bits, Check, Sign. -/
import Derived.Lib.BitFns
import Derived.WalkSmall
import Derived.Test.YtkncbenhfcpgkaaDoorBu03
import Derived.Test.YtkncbenhfcpgkaaDoorBu02
import Derived.Test.YtkncbenhfcpgkaaDoorBu01
import Derived.Deep.RegionHeld3
import Derived.IntWalk
import Derived.Deep.QuietTactic
import Derived.BigQuiet
set_option maxRecDepth 100000
set_option maxHeartbeats 8000000
/- How many bits a number has: plain. -/
namespace Go.Proofs.YtkncbenhfcpgkaaDoor

theorem bla_le : ∀ f x : Nat, Lib.bitLenAux f x ≤ f
  | 0, _ => Nat.le_refl _
  | f + 1, x => by
    simp only [Lib.bitLenAux]
    split
    · omega
    · have := bla_le f (x / 2); omega
theorem bla_lt : ∀ f x : Nat, x < 2 ^ f → x < 2 ^ Lib.bitLenAux f x
  | 0, x, h => by simpa [Lib.bitLenAux] using h
  | f + 1, x, h => by
    simp only [Lib.bitLenAux]
    split
    · omega
    · have := bla_lt f (x / 2) (by rw [Nat.pow_succ] at h; omega)
      rw [Nat.add_comm, Nat.pow_succ]; omega
theorem bla_ge : ∀ f x k : Nat, k < Lib.bitLenAux f x → 2 ^ k ≤ x
  | 0, x, k, h => by simp [Lib.bitLenAux] at h
  | f + 1, x, k, h => by
    simp only [Lib.bitLenAux] at h
    split at h
    · omega
    · cases k with
      | zero => simp; omega
      | succ k =>
        have := bla_ge f (x / 2) k (by omega)
        rw [Nat.pow_succ]; omega
/- Check, Sign, Bits: of whatever limbs come in. -/
open Go.RowKit

def okI (neg : Bool) (xs : List Nat) : Bool := decide (xs.length ≤ 2048) && (xs.getLast? != some 0) && !(xs.isEmpty && neg)
theorem okI_true {neg : Bool} {xs : List Nat} : okI neg xs = true ↔ xs.length ≤ 2048 ∧ Canon xs ∧ (xs = [] → neg = false) := by
  simp only [okI, Canon, Bool.and_eq_true, decide_eq_true_eq, bne_iff_ne, ne_eq, Bool.not_eq_true', Bool.and_eq_false_iff, List.isEmpty_eq_false_iff]
  constructor
  · rintro ⟨⟨h1, h2⟩, h3⟩
    refine ⟨h1, fun x hx h0 => h2 (by rw [hx, h0]), fun h => ?_⟩
    rcases h3 with h3 | h3
    · exact absurd h h3
    · exact h3
  · rintro ⟨h1, h2, h3⟩
    refine ⟨⟨h1, fun h => h2 0 h rfl⟩, ?_⟩
    by_cases h : xs = []
    · exact .inr (h3 h)
    · exact .inl h
theorem getLast_get {xs : List Nat} {k : Nat} (h : xs.length = k + 1) : xs.getLast? = some (xs[k]'(by omega)) := by
  have e : xs.length - 1 = k := by omega
  rw [List.getLast?_eq_getElem?, e, List.getElem?_eq_getElem]

def errI (neg : Bool) (xs : List Nat) : Int := if okI neg xs then 0 else 1


theorem exact_Check_long (neg : Bool) (A : Option Addr) (c : Nat) (xs : List Nat) (w : World) (h : Raw w A c xs) (hl : 2048 < xs.length) :
    Calls Tryd.prog 18 #[.agg #[.bool neg, .slice A xs.length c]] w fun e w' => e = .returned (.int .i64 1) ∧ Below w.heap.size w w' := by
  have h1 := h.cap
  have h2 := h.most
  clear h
  have hl2 : (2048 : Int) < (xs.length : Int) := by omega
  generalize xs.length = n at *
  go_enter Tryd.func18, Tryd.ntmps18
  go_wp2
  go_ret
  exact ⟨rfl, by repeat (first | exact Below.refl _ _ | apply Below.drew | refine Below.alloc ?_ (by simp; try omega) _)⟩

theorem exact_Check_empty (neg : Bool) (A : Option Addr) (c : Nat) (xs : List Nat) (w : World) (hl : xs.length = 0) :
    Calls Tryd.prog 18 #[.agg #[.bool neg, .slice A xs.length c]] w fun e w' => e = .returned (.int .i64 (if neg then 1 else 0)) ∧ Below w.heap.size w w' := by
  rw [hl]
  clear hl
  cases neg
  · go_enter Tryd.func18, Tryd.ntmps18
    go_wp2
    go_ret
    exact ⟨rfl, by repeat (first | exact Below.refl _ _ | apply Below.drew | refine Below.alloc ?_ (by simp; try omega) _)⟩
  · go_enter Tryd.func18, Tryd.ntmps18
    go_wp2
    go_ret
    exact ⟨rfl, by repeat (first | exact Below.refl _ _ | apply Below.drew | refine Below.alloc ?_ (by simp; try omega) _)⟩

theorem exact_Check_nought (neg : Bool) (A : Option Addr) (c : Nat) (xs : List Nat) (w : World) (h : Raw w A c xs) (k : Nat) (hk : xs.length = k + 1) (hl : xs.length ≤ 2048) (h0 : xs[k] = 0) :
    Calls Tryd.prog 18 #[.agg #[.bool neg, .slice A xs.length c]] w fun e w' => e = .returned (.int .i64 1) ∧ Below w.heap.size w w' := by
  have h1 := h.cap
  have h2 := h.most
  obtain ⟨ad, rfl, hbl, hcell⟩ := h.reads.get (k := k) (by omega)
  have hbk : (ad.add k).block < w.heap.size := by rw [block_of_add]; exact hbl
  rw [h0] at hcell
  clear h0
  rw [hk] at h1 hl ⊢
  clear h hk
  go_enter Tryd.func18, Tryd.ntmps18
  go_wp2
  go_ret
  exact ⟨rfl, by repeat (first | exact Below.refl _ _ | apply Below.drew | refine Below.alloc ?_ (by simp; try omega) _)⟩

theorem exact_Check_fine (neg : Bool) (A : Option Addr) (c : Nat) (xs : List Nat) (w : World) (h : Raw w A c xs) (k : Nat) (hk : xs.length = k + 1) (hl : xs.length ≤ 2048) (h0 : xs[k] ≠ 0) :
    Calls Tryd.prog 18 #[.agg #[.bool neg, .slice A xs.length c]] w fun e w' => e = .returned (.int .i64 0) ∧ Below w.heap.size w w' := by
  have h1 := h.cap
  have h2 := h.most
  obtain ⟨ad, rfl, hbl, hcell⟩ := h.reads.get (k := k) (by omega)
  have hbk : (ad.add k).block < w.heap.size := by rw [block_of_add]; exact hbl
  generalize xs[k] = y at hcell h0
  have hb : ((y : Int) == 0) = false := by simp; omega
  clear h0
  rw [hk] at h1 hl ⊢
  clear h hk
  go_enter Tryd.func18, Tryd.ntmps18
  go_wp2
  go_ret
  exact ⟨rfl, by repeat (first | exact Below.refl _ _ | apply Below.drew | refine Below.alloc ?_ (by simp; try omega) _)⟩

theorem exact_Check_any (neg : Bool) (A : Option Addr) (c : Nat) (xs : List Nat) (w : World) (h : Raw w A c xs) :
    Calls Tryd.prog 18 #[.agg #[.bool neg, .slice A xs.length c]] w fun e w' => e = .returned (.int .i64 (errI neg xs)) ∧ Below w.heap.size w w' := by
  by_cases hl : xs.length ≤ 2048
  · rcases Nat.eq_zero_or_pos xs.length with h0 | h0
    · have e : errI neg xs = if neg then 1 else 0 := by
        obtain rfl := List.eq_nil_of_length_eq_zero h0
        cases neg <;> rfl
      rw [e]
      exact exact_Check_empty neg A c xs w h0
    · obtain ⟨k, hk⟩ : ∃ k, xs.length = k + 1 := ⟨xs.length - 1, by omega⟩
      have hne : xs ≠ [] := by rintro rfl; simp at hk
      by_cases hz : xs[k] = 0
      · have e : errI neg xs = 1 := by simp [errI, okI, getLast_get hk, hz]
        rw [e]
        exact exact_Check_nought neg A c xs w h k hk hl hz
      · have e : errI neg xs = 0 := by simp [errI, okI, getLast_get hk, hz, hl, hne]
        rw [e]
        exact exact_Check_fine neg A c xs w h k hk hl hz
  · have e : errI neg xs = 1 := by simp [errI, okI, hl]
    rw [e]
    exact exact_Check_long neg A c xs w h (by omega)

/- Sign, Bits: of whatever limbs come in. -/

def sgnI (neg : Bool) (xs : List Nat) : Int := if xs.length = 0 then 0 else if neg then -1 else 1
def bitsI (xs : List Nat) : Nat := if xs.length = 0 then 0 else 32 * (xs.length - 1) + Lib.bitLen (xs.getLast?.getD 0)


theorem exact_Sign_any (neg : Bool) (A : Option Addr) (c : Nat) (xs : List Nat) (w : World) (h : Raw w A c xs) :
    Calls Tryd.prog 37 #[.agg #[.bool neg, .slice A xs.length c]] w fun e w' => e = .returned (.int .i64 (sgnI neg xs)) ∧ Below w.heap.size w w' := by
  have h1 := h.cap
  have h2 := h.most
  clear h
  unfold sgnI
  generalize xs.length = n at *
  by_cases h0 : n = 0
  · subst h0
    rw [if_pos rfl]
    go_enter Tryd.func37, Tryd.ntmps37
    go_wp2
    go_ret
    exact ⟨rfl, by repeat (first | exact Below.refl _ _ | apply Below.drew | refine Below.alloc ?_ (by simp; try omega) _)⟩
  · rw [if_neg h0]
    have hb : ((n : Int) == 0) = false := by simp; omega
    clear h0
    cases neg
    · rw [if_neg (by simp)]
      go_enter Tryd.func37, Tryd.ntmps37
      go_wp2
      go_ret
      exact ⟨rfl, by repeat (first | exact Below.refl _ _ | apply Below.drew | refine Below.alloc ?_ (by simp; try omega) _)⟩
    · rw [if_pos rfl]
      go_enter Tryd.func37, Tryd.ntmps37
      go_wp2
      go_ret
      exact ⟨rfl, by repeat (first | exact Below.refl _ _ | apply Below.drew | refine Below.alloc ?_ (by simp; try omega) _)⟩


theorem exact_Bits_more (neg : Bool) (A : Option Addr) (c : Nat) (xs : List Nat) (w : World) (h : Raw w A c xs) (k : Nat) (hk : xs.length = k + 1) (hl : xs.length ≤ 268435456) :
    Calls Tryd.prog 27 #[.agg #[.bool neg, .slice A xs.length c]] w fun e w' => e = .returned (.int .i64 (32 * (k : Int) + (Lib.bitLen (xs[k]) : Nat))) ∧ Below w.heap.size w w' := by
  have h1 := h.cap
  have h2 := h.most
  have hlim := limbs_get h.limbs (k := k) (by omega)
  obtain ⟨ad, rfl, hbl, hcell⟩ := h.reads.get (k := k) (by omega)
  have hbk : (ad.add k).block < w.heap.size := by rw [block_of_add]; exact hbl
  generalize xs[k] = y at hcell hlim ⊢
  rw [hk] at h1 hl ⊢
  clear h hk
  have hy := bla_le 64 y
  have e1 : IntKind.i64.wrap ((k : Int) + 1 - 1) = (k : Int) := by rw [IntWalk.i64_in _ (by omega)]; omega
  have e2 : IntKind.i64.wrap (32 * (k : Int)) = 32 * (k : Int) := IntWalk.i64_in _ (by omega)
  have e3 : IntKind.i64.wrap (32 * (k : Int) + (Lib.bitLen y : Nat)) = 32 * (k : Int) + (Lib.bitLen y : Nat) := IntWalk.i64_in _ (by unfold Lib.bitLen; omega)
  have a0 : (0 : Int) ≤ (k : Int) := by omega
  have a1 : (k : Int) < (k : Int) + 1 := by omega
  have a2 : (k : Int) + 1 - 1 = (k : Int) := by omega
  have a3 : (0 : Int) ≤ (y : Int) := by omega
  have a4 : (y : Int) ≤ 4294967295 := by omega
  go_enter Tryd.func27, Tryd.ntmps27
  go_wp2_with fail
  go_quiet ((go_at_call 42; exact Calls.quiet_of_same (Tryd.bits_Len32 _ _ (by omega) (by omega))))
  go_wp2
  go_ret
  exact ⟨rfl, by repeat (first | exact Below.refl _ _ | apply below_drewN | refine Below.alloc ?_ (by simp; try omega) _)⟩

theorem exact_Bits_any (neg : Bool) (A : Option Addr) (c : Nat) (xs : List Nat) (w : World) (h : Raw w A c xs) (hl : xs.length ≤ 268435456) :
    Calls Tryd.prog 27 #[.agg #[.bool neg, .slice A xs.length c]] w fun e w' => e = .returned (.int .i64 (bitsI xs)) ∧ Below w.heap.size w w' := by
  rcases Nat.eq_zero_or_pos xs.length with h0 | h0
  · have e : (bitsI xs : Int) = 0 := by simp [bitsI, h0]
    rw [e, h0]
    clear h h0 hl e
    go_enter Tryd.func27, Tryd.ntmps27
    go_wp2
    go_ret
    exact ⟨rfl, by repeat (first | exact Below.refl _ _ | apply below_drewN | refine Below.alloc ?_ (by simp; try omega) _)⟩
  · obtain ⟨k, hk⟩ : ∃ k, xs.length = k + 1 := ⟨xs.length - 1, by omega⟩
    have e : (bitsI xs : Int) = 32 * (k : Int) + (Lib.bitLen (xs[k]) : Nat) := by
      simp [bitsI, hk, getLast_get hk]
    rw [e]
    exact exact_Bits_more neg A c xs w h k hk hl
end Go.Proofs.YtkncbenhfcpgkaaDoor
