/- Several texts in one: Sign, RefOf, Vals. -/
import Derived.Test.YtbdliabfdplohaaDoorBw03
import Derived.Deep.RegionHeld3
import Derived.IntWalk
import Derived.Deep.QuietTactic
import Derived.BigQuiet
import Derived.Test.YtbdliabfdplohaaDoorBw01
set_option maxRecDepth 100000
set_option maxHeartbeats 8000000
/- Sign, Bits: of whatever limbs come in. -/
namespace Go.Proofs.YtbdliabfdplohaaDoor
open Go.RowKit

def sgnI (neg : Bool) (xs : List Nat) : Int := if xs.length = 0 then 0 else if neg then -1 else 1
def bitsI (xs : List Nat) : Nat := if xs.length = 0 then 0 else 32 * (xs.length - 1) + Lib.bitLen (xs.getLast?.getD 0)


theorem exact_Sign_any (neg : Bool) (A : Option Addr) (c : Nat) (xs : List Nat) (w : World) (h : Raw w A c xs) :
    Calls Tryd.prog 71 #[.agg #[.bool neg, .slice A xs.length c]] w fun e w' => e = .returned (.int .i64 (sgnI neg xs)) ∧ Below w.heap.size w w' := by
  have h1 := h.cap
  have h2 := h.most
  clear h
  unfold sgnI
  generalize xs.length = n at *
  by_cases h0 : n = 0
  · subst h0
    rw [if_pos rfl]
    go_enter Tryd.func71, Tryd.ntmps71
    go_wp2
    go_ret
    exact ⟨rfl, by repeat (first | exact Below.refl _ _ | apply Below.drew | refine Below.alloc ?_ (by simp; try omega) _)⟩
  · rw [if_neg h0]
    have hb : ((n : Int) == 0) = false := by simp; omega
    clear h0
    cases neg
    · rw [if_neg (by simp)]
      go_enter Tryd.func71, Tryd.ntmps71
      go_wp2
      go_ret
      exact ⟨rfl, by repeat (first | exact Below.refl _ _ | apply Below.drew | refine Below.alloc ?_ (by simp; try omega) _)⟩
    · rw [if_pos rfl]
      go_enter Tryd.func71, Tryd.ntmps71
      go_wp2
      go_ret
      exact ⟨rfl, by repeat (first | exact Below.refl _ _ | apply Below.drew | refine Below.alloc ?_ (by simp; try omega) _)⟩


/- trim, signed, Of of the references. -/

theorem limbInfo : (Tryd.prog.info? 40).map (fun i => (i.zero, i.size, i.bytes)) = some (some (.int .u32 0), 1, 4) := by kernel_rfl

/- More of numbers by their limbs: plain, no program in sight. -/

abbrev BB : Nat := 4294967296

theorem val_snoc (xs : List Nat) (d : Nat) : val (xs ++ [d]) = val xs + 4294967296 ^ xs.length * d := by
  rw [val_append]; simp [val]
theorem val_take_more {xs : List Nat} {k : Nat} (h : k < xs.length) : val (xs.take (k + 1)) = val (xs.take k) + 4294967296 ^ k * xs[k] := by
  rw [List.take_succ_eq_append_getElem h, val_snoc, List.length_take, Nat.min_eq_left (by omega)]
theorem val_take_all {xs : List Nat} {k : Nat} (h : xs.length ≤ k) : val (xs.take k) = val xs := by
  rw [List.take_of_length_le h]
theorem val_noughts (n : Nat) : val (List.replicate n 0) = 0 := by
  induction n with
  | zero => rfl
  | succ n ih => simp [List.replicate_succ, val, ih]
theorem limbs_noughts (n : Nat) : Limbs (List.replicate n 0) := by
  intro x hx
  have := (List.mem_replicate.1 hx).2
  omega
theorem val_part (xs : List Nat) (k : Nat) (h : k ≤ xs.length) : val xs = val (xs.take k) + 4294967296 ^ k * val (xs.drop k) := by
  conv => lhs; rw [← List.take_append_drop k xs]
  rw [val_append, List.length_take, Nat.min_eq_left h]
theorem val_drop_more {xs : List Nat} {k : Nat} (h : k < xs.length) : val (xs.drop k) = xs[k] + 4294967296 * val (xs.drop (k + 1)) := by
  rw [List.drop_eq_getElem_cons h, val]
theorem val_set {xs : List Nat} {k d : Nat} (h : k < xs.length) : val (xs.set k d) + 4294967296 ^ k * xs[k] = val xs + 4294967296 ^ k * d := by
  induction xs generalizing k with
  | nil => simp at h
  | cons x xs ih =>
    cases k with
    | zero => simp [val]; omega
    | succ k =>
      have hk : k < xs.length := by simpa using h
      have := ih hk
      simp only [List.set_cons_succ, val, List.getElem_cons_succ, Nat.pow_succ]
      have e1 : 4294967296 ^ k * 4294967296 * xs[k] = 4294967296 * (4294967296 ^ k * xs[k]) := by grind
      have e2 : 4294967296 ^ k * 4294967296 * d = 4294967296 * (4294967296 ^ k * d) := by grind
      rw [e1, e2]
      omega
theorem limbs_set {xs : List Nat} (h : Limbs xs) {k d : Nat} (hd : d < 4294967296) : Limbs (xs.set k d) := by
  intro x hx
  rcases List.mem_or_eq_of_mem_set hx with hx | rfl
  · exact h x hx
  · exact hd
def at0 (xs : List Nat) (k : Nat) : Nat := xs.getD k 0
theorem at0_lt {xs : List Nat} {k : Nat} (h : k < xs.length) : at0 xs k = xs[k] := by simp [at0, h]
theorem at0_ge {xs : List Nat} {k : Nat} (h : xs.length ≤ k) : at0 xs k = 0 := by simp [at0, h]
theorem at0_limb {xs : List Nat} (hx : Limbs xs) (k : Nat) : at0 xs k < 4294967296 := by
  rcases Nat.lt_or_ge k xs.length with h | h
  · rw [at0_lt h]; exact limbs_get hx h
  · rw [at0_ge h]; omega
theorem add_step {zs : List Nat} {k c v : Nat} (hk : zs.length = k) (s : Nat) (h : val zs + 4294967296 ^ k * c = v) (x : Nat) (hs : s = x + c) :
    val (zs ++ [s % 4294967296]) + 4294967296 ^ (k + 1) * (s / 4294967296) = v + 4294967296 ^ k * x := by
  subst hk hs
  rw [val_snoc, ← h, Nat.pow_succ]
  generalize 4294967296 ^ zs.length = P
  have e : P * 4294967296 * ((x + c) / 4294967296) + P * ((x + c) % 4294967296) = P * (x + c) := by
    rw [Nat.mul_assoc, ← Nat.mul_add, Nat.div_add_mod]
  rw [Nat.mul_add] at e
  omega
theorem at0_set_ne {zs : List Nat} {m k d : Nat} (h : k ≠ m) : at0 (zs.set m d) k = at0 zs k := by
  simp only [at0, List.getD_eq_getElem?_getD]
  rw [List.getElem?_set_ne (by omega)]
theorem at0_noughts (n k : Nat) : at0 (List.replicate n 0) k = 0 := by
  simp only [at0, List.getD_eq_getElem?_getD, List.getElem?_replicate]
  split <;> rfl
theorem mul_step {zs : List Nat} {m c V : Nat} (hm : m < zs.length) (h : val zs + 4294967296 ^ m * c = V) (p t : Nat) (ht : t = c + p + zs[m]) :
    val (zs.set m (t % 4294967296)) + 4294967296 ^ (m + 1) * (t / 4294967296) = V + 4294967296 ^ m * p := by
  have e := val_set (xs := zs) (k := m) (d := t % 4294967296) hm
  rw [Nat.pow_succ]
  generalize 4294967296 ^ m = P at *
  have e2 : P * 4294967296 * (t / 4294967296) + P * (t % 4294967296) = P * t := by
    rw [Nat.mul_assoc, ← Nat.mul_add, Nat.div_add_mod]
  have e3 : P * t = P * c + P * p + P * zs[m] := by rw [ht, Nat.mul_add, Nat.mul_add]
  omega
theorem mul_last {zs : List Nat} {m c V : Nat} (hm : m < zs.length) (h : val zs + 4294967296 ^ m * c = V) (h0 : zs[m] = 0) : val (zs.set m c) = V := by
  have e := val_set (xs := zs) (k := m) (d := c) hm
  rw [h0] at e
  omega
theorem mul_bound {u v o c : Nat} (hu : u < 4294967296) (hv : v < 4294967296) (ho : o < 4294967296) (hc : c < 4294967296) : c + u * v + o < 18446744073709551616 ∧ (c + u * v + o) / 4294967296 < 4294967296 := by
  have h : u * v ≤ 4294967295 * 4294967295 := Nat.mul_le_mul (by omega) (by omega)
  omega
end Go.Proofs.YtbdliabfdplohaaDoor
