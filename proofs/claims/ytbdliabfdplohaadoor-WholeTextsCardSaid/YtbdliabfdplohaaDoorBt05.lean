/- Several texts in one: Check, Sign. -/
import Derived.Test.YtbdliabfdplohaaDoorBt04
import Derived.Deep.RegionHeld3
import Derived.IntWalk
import Derived.Deep.QuietTactic
import Derived.BigQuiet
set_option maxRecDepth 100000
set_option maxHeartbeats 8000000
/- Check, Sign, Bits: of whatever limbs come in. -/
namespace Go.Proofs.YtbdliabfdplohaaDoor
open Go.RowKit

def okI (neg : Bool) (xs : List Nat) : Bool := decide (xs.length ≤ 2048) && (xs.getLast? != some 0) && !(xs.isEmpty && neg)
theorem okI_true {neg : Bool} {xs : List Nat} : okI neg xs = true ↔ xs.length ≤ 2048 ∧ Canon xs ∧ (xs = [] → neg = false) := by
  simp only [okI, Canon, Bool.and_eq_true, decide_eq_true_eq, bne_iff_ne, ne_eq, Bool.not_eq_true', Bool.and_eq_false_iff, List.isEmpty_eq_false_iff]
  constructor
  · rintro ⟨⟨h1, h2⟩, h3⟩
    refine ⟨h1, fun x hx h0 => h2 (by rw [hx, h0]), fun h => ?_⟩
    rcases h3 with h3 | h3
    · exact absurd h h3
    · exact h3
  · rintro ⟨h1, h2, h3⟩
    refine ⟨⟨h1, fun h => h2 0 h rfl⟩, ?_⟩
    by_cases h : xs = []
    · exact .inr (h3 h)
    · exact .inl h
theorem getLast_get {xs : List Nat} {k : Nat} (h : xs.length = k + 1) : xs.getLast? = some (xs[k]'(by omega)) := by
  have e : xs.length - 1 = k := by omega
  rw [List.getLast?_eq_getElem?, e, List.getElem?_eq_getElem]

def errI (neg : Bool) (xs : List Nat) : Int := if okI neg xs then 0 else 1


theorem exact_Check_long (neg : Bool) (A : Option Addr) (c : Nat) (xs : List Nat) (w : World) (h : Raw w A c xs) (hl : 2048 < xs.length) :
    Calls Tryd.prog 17 #[.agg #[.bool neg, .slice A xs.length c]] w fun e w' => e = .returned (.int .i64 1) ∧ Below w.heap.size w w' := by
  have h1 := h.cap
  have h2 := h.most
  clear h
  have hl2 : (2048 : Int) < (xs.length : Int) := by omega
  generalize xs.length = n at *
  go_enter Tryd.func17, Tryd.ntmps17
  go_wp2
  go_ret
  exact ⟨rfl, by repeat (first | exact Below.refl _ _ | apply Below.drew | refine Below.alloc ?_ (by simp; try omega) _)⟩

theorem exact_Check_empty (neg : Bool) (A : Option Addr) (c : Nat) (xs : List Nat) (w : World) (hl : xs.length = 0) :
    Calls Tryd.prog 17 #[.agg #[.bool neg, .slice A xs.length c]] w fun e w' => e = .returned (.int .i64 (if neg then 1 else 0)) ∧ Below w.heap.size w w' := by
  rw [hl]
  clear hl
  cases neg
  · go_enter Tryd.func17, Tryd.ntmps17
    go_wp2
    go_ret
    exact ⟨rfl, by repeat (first | exact Below.refl _ _ | apply Below.drew | refine Below.alloc ?_ (by simp; try omega) _)⟩
  · go_enter Tryd.func17, Tryd.ntmps17
    go_wp2
    go_ret
    exact ⟨rfl, by repeat (first | exact Below.refl _ _ | apply Below.drew | refine Below.alloc ?_ (by simp; try omega) _)⟩

theorem exact_Check_nought (neg : Bool) (A : Option Addr) (c : Nat) (xs : List Nat) (w : World) (h : Raw w A c xs) (k : Nat) (hk : xs.length = k + 1) (hl : xs.length ≤ 2048) (h0 : xs[k] = 0) :
    Calls Tryd.prog 17 #[.agg #[.bool neg, .slice A xs.length c]] w fun e w' => e = .returned (.int .i64 1) ∧ Below w.heap.size w w' := by
  have h1 := h.cap
  have h2 := h.most
  obtain ⟨ad, rfl, hbl, hcell⟩ := h.reads.get (k := k) (by omega)
  have hbk : (ad.add k).block < w.heap.size := by rw [block_of_add]; exact hbl
  rw [h0] at hcell
  clear h0
  rw [hk] at h1 hl ⊢
  clear h hk
  go_enter Tryd.func17, Tryd.ntmps17
  go_wp2
  go_ret
  exact ⟨rfl, by repeat (first | exact Below.refl _ _ | apply Below.drew | refine Below.alloc ?_ (by simp; try omega) _)⟩

theorem exact_Check_fine (neg : Bool) (A : Option Addr) (c : Nat) (xs : List Nat) (w : World) (h : Raw w A c xs) (k : Nat) (hk : xs.length = k + 1) (hl : xs.length ≤ 2048) (h0 : xs[k] ≠ 0) :
    Calls Tryd.prog 17 #[.agg #[.bool neg, .slice A xs.length c]] w fun e w' => e = .returned (.int .i64 0) ∧ Below w.heap.size w w' := by
  have h1 := h.cap
  have h2 := h.most
  obtain ⟨ad, rfl, hbl, hcell⟩ := h.reads.get (k := k) (by omega)
  have hbk : (ad.add k).block < w.heap.size := by rw [block_of_add]; exact hbl
  generalize xs[k] = y at hcell h0
  have hb : ((y : Int) == 0) = false := by simp; omega
  clear h0
  rw [hk] at h1 hl ⊢
  clear h hk
  go_enter Tryd.func17, Tryd.ntmps17
  go_wp2
  go_ret
  exact ⟨rfl, by repeat (first | exact Below.refl _ _ | apply Below.drew | refine Below.alloc ?_ (by simp; try omega) _)⟩

theorem exact_Check_any (neg : Bool) (A : Option Addr) (c : Nat) (xs : List Nat) (w : World) (h : Raw w A c xs) :
    Calls Tryd.prog 17 #[.agg #[.bool neg, .slice A xs.length c]] w fun e w' => e = .returned (.int .i64 (errI neg xs)) ∧ Below w.heap.size w w' := by
  by_cases hl : xs.length ≤ 2048
  · rcases Nat.eq_zero_or_pos xs.length with h0 | h0
    · have e : errI neg xs = if neg then 1 else 0 := by
        obtain rfl := List.eq_nil_of_length_eq_zero h0
        cases neg <;> rfl
      rw [e]
      exact exact_Check_empty neg A c xs w h0
    · obtain ⟨k, hk⟩ : ∃ k, xs.length = k + 1 := ⟨xs.length - 1, by omega⟩
      have hne : xs ≠ [] := by rintro rfl; simp at hk
      by_cases hz : xs[k] = 0
      · have e : errI neg xs = 1 := by simp [errI, okI, getLast_get hk, hz]
        rw [e]
        exact exact_Check_nought neg A c xs w h k hk hl hz
      · have e : errI neg xs = 0 := by simp [errI, okI, getLast_get hk, hz, hl, hne]
        rw [e]
        exact exact_Check_fine neg A c xs w h k hk hl hz
  · have e : errI neg xs = 1 := by simp [errI, okI, hl]
    rw [e]
    exact exact_Check_long neg A c xs w h (by omega)

theorem ref_Check_long (neg : Bool) (A : Option Addr) (c : Nat) (xs : List Nat) (w : World) (h : Raw w A c xs) (hl : 2048 < xs.length) :
    Calls Tryd.prog 21 #[.agg #[.bool neg, .slice A xs.length c]] w fun e w' => e = .returned (.int .i64 1) ∧ Below w.heap.size w w' := by
  have h1 := h.cap
  have h2 := h.most
  clear h
  have hl2 : (2048 : Int) < (xs.length : Int) := by omega
  generalize xs.length = n at *
  go_enter Tryd.func21, Tryd.ntmps21
  go_wp2
  go_ret
  exact ⟨rfl, by repeat (first | exact Below.refl _ _ | apply Below.drew | refine Below.alloc ?_ (by simp; try omega) _)⟩

theorem ref_Check_empty (neg : Bool) (A : Option Addr) (c : Nat) (xs : List Nat) (w : World) (hl : xs.length = 0) :
    Calls Tryd.prog 21 #[.agg #[.bool neg, .slice A xs.length c]] w fun e w' => e = .returned (.int .i64 (if neg then 1 else 0)) ∧ Below w.heap.size w w' := by
  rw [hl]
  clear hl
  cases neg
  · go_enter Tryd.func21, Tryd.ntmps21
    go_wp2
    go_ret
    exact ⟨rfl, by repeat (first | exact Below.refl _ _ | apply Below.drew | refine Below.alloc ?_ (by simp; try omega) _)⟩
  · go_enter Tryd.func21, Tryd.ntmps21
    go_wp2
    go_ret
    exact ⟨rfl, by repeat (first | exact Below.refl _ _ | apply Below.drew | refine Below.alloc ?_ (by simp; try omega) _)⟩

theorem ref_Check_nought (neg : Bool) (A : Option Addr) (c : Nat) (xs : List Nat) (w : World) (h : Raw w A c xs) (k : Nat) (hk : xs.length = k + 1) (hl : xs.length ≤ 2048) (h0 : xs[k] = 0) :
    Calls Tryd.prog 21 #[.agg #[.bool neg, .slice A xs.length c]] w fun e w' => e = .returned (.int .i64 1) ∧ Below w.heap.size w w' := by
  have h1 := h.cap
  have h2 := h.most
  obtain ⟨ad, rfl, hbl, hcell⟩ := h.reads.get (k := k) (by omega)
  have hbk : (ad.add k).block < w.heap.size := by rw [block_of_add]; exact hbl
  rw [h0] at hcell
  clear h0
  rw [hk] at h1 hl ⊢
  clear h hk
  go_enter Tryd.func21, Tryd.ntmps21
  go_wp2
  go_ret
  exact ⟨rfl, by repeat (first | exact Below.refl _ _ | apply Below.drew | refine Below.alloc ?_ (by simp; try omega) _)⟩

theorem ref_Check_fine (neg : Bool) (A : Option Addr) (c : Nat) (xs : List Nat) (w : World) (h : Raw w A c xs) (k : Nat) (hk : xs.length = k + 1) (hl : xs.length ≤ 2048) (h0 : xs[k] ≠ 0) :
    Calls Tryd.prog 21 #[.agg #[.bool neg, .slice A xs.length c]] w fun e w' => e = .returned (.int .i64 0) ∧ Below w.heap.size w w' := by
  have h1 := h.cap
  have h2 := h.most
  obtain ⟨ad, rfl, hbl, hcell⟩ := h.reads.get (k := k) (by omega)
  have hbk : (ad.add k).block < w.heap.size := by rw [block_of_add]; exact hbl
  generalize xs[k] = y at hcell h0
  have hb : ((y : Int) == 0) = false := by simp; omega
  clear h0
  rw [hk] at h1 hl ⊢
  clear h hk
  go_enter Tryd.func21, Tryd.ntmps21
  go_wp2
  go_ret
  exact ⟨rfl, by repeat (first | exact Below.refl _ _ | apply Below.drew | refine Below.alloc ?_ (by simp; try omega) _)⟩

theorem ref_Check_any (neg : Bool) (A : Option Addr) (c : Nat) (xs : List Nat) (w : World) (h : Raw w A c xs) :
    Calls Tryd.prog 21 #[.agg #[.bool neg, .slice A xs.length c]] w fun e w' => e = .returned (.int .i64 (errI neg xs)) ∧ Below w.heap.size w w' := by
  by_cases hl : xs.length ≤ 2048
  · rcases Nat.eq_zero_or_pos xs.length with h0 | h0
    · have e : errI neg xs = if neg then 1 else 0 := by
        obtain rfl := List.eq_nil_of_length_eq_zero h0
        cases neg <;> rfl
      rw [e]
      exact ref_Check_empty neg A c xs w h0
    · obtain ⟨k, hk⟩ : ∃ k, xs.length = k + 1 := ⟨xs.length - 1, by omega⟩
      have hne : xs ≠ [] := by rintro rfl; simp at hk
      by_cases hz : xs[k] = 0
      · have e : errI neg xs = 1 := by simp [errI, okI, getLast_get hk, hz]
        rw [e]
        exact ref_Check_nought neg A c xs w h k hk hl hz
      · have e : errI neg xs = 0 := by simp [errI, okI, getLast_get hk, hz, hl, hne]
        rw [e]
        exact ref_Check_fine neg A c xs w h k hk hl hz
  · have e : errI neg xs = 1 := by simp [errI, okI, hl]
    rw [e]
    exact ref_Check_long neg A c xs w h (by omega)
/- Sign, Bits: of whatever limbs come in. -/

def sgnI (neg : Bool) (xs : List Nat) : Int := if xs.length = 0 then 0 else if neg then -1 else 1
def bitsI (xs : List Nat) : Nat := if xs.length = 0 then 0 else 32 * (xs.length - 1) + Lib.bitLen (xs.getLast?.getD 0)


end Go.Proofs.YtbdliabfdplohaaDoor
