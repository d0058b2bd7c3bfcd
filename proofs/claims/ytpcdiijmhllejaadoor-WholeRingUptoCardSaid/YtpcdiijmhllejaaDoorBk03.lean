/- Several texts in one: Limbs, Trim. -/
import Derived.Test.YtpcdiijmhllejaaDoorBk01
import Derived.Test.YtpcdiijmhllejaaDoorProg
import Derived.WalkKit
import Derived.WalkSpells
import Derived.WalkLawsBesides
import Derived.Lib.Hide
/- Numbers by their limbs of 32 bits, the lowest first: plain, no program in sight. -/
namespace Go.Proofs.YtpcdiijmhllejaaDoor

/-- What limbs count. -/
def val : List Nat → Nat
  | [] => 0
  | x :: xs => x + 4294967296 * val xs
/-- Each is a limb. -/
def Limbs (xs : List Nat) : Prop := ∀ x ∈ xs, x < 4294967296

def natLF : Nat → Nat → List Nat
  | 0, _ => []
  | f + 1, n => if n = 0 then [] else n % 4294967296 :: natLF f (n / 4294967296)
/-- The limbs of a number, without noughts at the end. -/
def natL (n : Nat) : List Nat := natLF n n

theorem natLF_fuel : ∀ (f g n : Nat), n ≤ f → n ≤ g → natLF f n = natLF g n
  | 0, 0, _, _, _ => rfl
  | 0, g + 1, n, h, _ => by
    obtain rfl : n = 0 := by omega
    simp [natLF]
  | f + 1, 0, n, _, h => by
    obtain rfl : n = 0 := by omega
    simp [natLF]
  | f + 1, g + 1, n, h1, h2 => by
    simp only [natLF]
    split
    · rfl
    · rw [natLF_fuel f g _ (by omega) (by omega)]
theorem natL_zero : natL 0 = [] := rfl
theorem natL_pos {n : Nat} (h : n ≠ 0) : natL n = n % 4294967296 :: natL (n / 4294967296) := by
  unfold natL
  obtain ⟨m, rfl⟩ : ∃ m, n = m + 1 := ⟨n - 1, by omega⟩
  conv => lhs; rw [natLF, if_neg h]
  rw [natLF_fuel m _ _ (by omega) (Nat.le_refl _)]
theorem natL_ind {P : Nat → Prop} (h0 : P 0) (h1 : ∀ n, n ≠ 0 → P (n / 4294967296) → P n) (n : Nat) : P n := by
  induction n using Nat.strongRecOn with
  | _ n ih =>
    by_cases h : n = 0
    · subst h; exact h0
    · exact h1 n h (ih _ (by omega))
theorem val_natL (n : Nat) : val (natL n) = n := by
  induction n using natL_ind with
  | h0 => rfl
  | h1 n h ih => rw [natL_pos h, val, ih]; omega
theorem limbs_natL (n : Nat) : Limbs (natL n) := by
  induction n using natL_ind with
  | h0 => intro x hx; simp [natL_zero] at hx
  | h1 n h ih =>
    rw [natL_pos h]
    intro x hx
    simp only [List.mem_cons] at hx
    rcases hx with rfl | hx
    · omega
    · exact ih x hx
theorem natL_eq_nil {n : Nat} : natL n = [] ↔ n = 0 := by
  constructor
  · intro h
    by_cases hn : n = 0
    · exact hn
    · rw [natL_pos hn] at h; cases h
  · rintro rfl; rfl
theorem limbs_cons {x : Nat} {xs : List Nat} : Limbs (x :: xs) ↔ x < 4294967296 ∧ Limbs xs := by
  simp [Limbs]
theorem limbs_append {xs ys : List Nat} : Limbs (xs ++ ys) ↔ Limbs xs ∧ Limbs ys := by
  simp only [Limbs, List.mem_append]
  exact ⟨fun h => ⟨fun x hx => h x (.inl hx), fun x hx => h x (.inr hx)⟩, fun h x hx => hx.elim (h.1 x) (h.2 x)⟩
theorem limbs_take {xs : List Nat} (h : Limbs xs) (n : Nat) : Limbs (xs.take n) := fun x hx => h x (List.mem_of_mem_take hx)
theorem limbs_drop {xs : List Nat} (h : Limbs xs) (n : Nat) : Limbs (xs.drop n) := fun x hx => h x (List.mem_of_mem_drop hx)
theorem limbs_get {xs : List Nat} (h : Limbs xs) {k : Nat} (hk : k < xs.length) : xs[k] < 4294967296 := h _ (List.getElem_mem hk)
theorem val_append (xs ys : List Nat) : val (xs ++ ys) = val xs + 4294967296 ^ xs.length * val ys := by
  induction xs with
  | nil => simp [val]
  | cons x xs ih => simp only [List.cons_append, val, ih, List.length_cons, Nat.pow_succ]; grind
theorem val_lt {xs : List Nat} (h : Limbs xs) : val xs < 4294967296 ^ xs.length := by
  induction xs with
  | nil => simp [val]
  | cons x xs ih =>
    obtain ⟨h1, h2⟩ := limbs_cons.1 h
    have := ih h2
    simp only [val, List.length_cons, Nat.pow_succ]
    have e : 4294967296 ^ xs.length * 4294967296 = 4294967296 * 4294967296 ^ xs.length := Nat.mul_comm _ _
    omega
/-- The last limb, if there is one, is not 0. -/
def Canon (xs : List Nat) : Prop := ∀ x, xs.getLast? = some x → x ≠ 0
theorem canon_natL (n : Nat) : Canon (natL n) := by
  induction n using natL_ind with
  | h0 => intro x hx; simp [natL_zero] at hx
  | h1 n h ih =>
    rw [natL_pos h]
    intro x hx
    by_cases hq : n / 4294967296 = 0
    · rw [hq, natL_zero] at hx
      simp at hx; omega
    · rw [natL_pos hq] at ih hx
      rw [List.getLast?_cons_cons] at hx
      exact ih x hx
theorem natL_val {xs : List Nat} (hl : Limbs xs) (hc : Canon xs) : natL (val xs) = xs := by
  induction xs with
  | nil => rfl
  | cons x xs ih =>
    obtain ⟨h1, h2⟩ := limbs_cons.1 hl
    have hc2 : Canon xs := by
      intro y hy
      cases xs with
      | nil => simp at hy
      | cons z zs => exact hc y (by rw [List.getLast?_cons_cons]; exact hy)
    have hne : val (x :: xs) ≠ 0 := by
      intro h0
      simp only [val] at h0
      have hx : x = 0 := by omega
      have hv : val xs = 0 := by omega
      have : xs = [] := by rw [← ih h2 hc2, hv]; rfl
      subst this
      exact hc x (by simp) hx
    rw [natL_pos hne]
    simp only [val]
    rw [show (x + 4294967296 * val xs) % 4294967296 = x by omega, show (x + 4294967296 * val xs) / 4294967296 = val xs by omega, ih h2 hc2]
theorem natL_length_le {n k : Nat} : (natL n).length ≤ k ↔ n < 4294967296 ^ k := by
  induction n using natL_ind generalizing k with
  | h0 => simp [natL_zero]; exact Nat.pow_pos (by omega)
  | h1 n h ih =>
    rw [natL_pos h]
    cases k with
    | zero => simp; omega
    | succ k =>
      simp only [List.length_cons, Nat.add_le_add_iff_right, ih, Nat.pow_succ]
      rw [Nat.div_lt_iff_lt_mul (by omega)]
theorem canon_of_get {xs : List Nat} {k : Nat} (hk : k < xs.length) (h : xs[k] ≠ 0) : Canon (xs.take (k + 1)) := by
  intro x hx
  rw [List.take_succ_eq_append_getElem hk, List.getLast?_concat] at hx
  injection hx with hx
  rw [← hx]; exact h
theorem natL_take_nought {xs : List Nat} {k : Nat} (hk : k < xs.length) (h : xs[k] = 0) : val (xs.take (k + 1)) = val (xs.take k) := by
  rw [List.take_succ_eq_append_getElem hk, val_append, h]; simp [val]
/-- Limbs without noughts at the end are a beginning of them. -/
theorem natL_take {xs : List Nat} (h : Limbs xs) : natL (val xs) = xs.take (natL (val xs)).length := by
  induction hn : xs.length generalizing xs with
  | zero => 
    obtain rfl := List.eq_nil_of_length_eq_zero hn
    rfl
  | succ k ih =>
    by_cases h0 : xs[k] = 0
    · have e := natL_take_nought (xs := xs) (k := k) (by omega) h0
      rw [List.take_of_length_le (by omega)] at e
      have := ih (limbs_take h k) (by simp; omega)
      rw [← e] at this
      rw [List.take_take] at this
      have hle : (natL (val xs)).length ≤ k := by
        rw [natL_length_le, e]
        have := val_lt (limbs_take h k)
        simpa [List.length_take, Nat.min_eq_left (show k ≤ xs.length by omega)] using this
      rw [Nat.min_eq_left hle] at this
      exact this
    · have hc : Canon xs := by
        have := canon_of_get (xs := xs) (k := k) (by omega) h0
        rwa [List.take_of_length_le (by omega)] at this
      rw [natL_val h hc, List.take_length]
theorem natL_val_le {xs : List Nat} (h : Limbs xs) : (natL (val xs)).length ≤ xs.length := natL_length_le.2 (val_lt h)
end Go.Proofs.YtpcdiijmhllejaaDoor

/- Limbs in memory; trim, signed. -/
namespace Go.Proofs.YtpcdiijmhllejaaDoor
open Go.RowKit

/-- Limbs as cells. -/
def cellsU (xs : List Nat) : List Value := xs.map fun x : Nat => .int .u32 (x : Int)
theorem cellsU_length (xs : List Nat) : (cellsU xs).length = xs.length := by simp [cellsU]
theorem cellsU_get {xs : List Nat} {k : Nat} (h : k < xs.length) : (cellsU xs)[k]? = some (.int .u32 xs[k]) := by simp [cellsU, h]
theorem cellsU_take (xs : List Nat) (k : Nat) : cellsU (xs.take k) = (cellsU xs).take k := by simp [cellsU, List.map_take]
abbrev ReadsU (w : World) (B : Nat) (A : Option Addr) (xs : List Nat) : Prop := Reads w B 1 A xs.length (cellsU xs)
theorem ReadsU.get {w : World} {B : Nat} {A : Option Addr} {xs : List Nat} (h : ReadsU w B A xs) {k : Nat} (hk : k < xs.length) :
    ∃ ad, A = some ad ∧ ad.block < B ∧ w.cell? (ad.add k) = some (.int .u32 xs[k]) := by
  obtain ⟨ad, e, hb, hc⟩ := h.2 (by omega)
  exact ⟨ad, e, hb, hc k _ (cellsU_get hk)⟩
theorem ReadsU.take {w : World} {B : Nat} {A : Option Addr} {xs : List Nat} (h : ReadsU w B A xs) (k : Nat) : ReadsU w B A (xs.take k) := by
  refine ⟨by rw [cellsU_length]; simp, fun hn => ?_⟩
  obtain ⟨ad, e, hb, hc⟩ := h.2 (by simp at hn; omega)
  refine ⟨ad, e, hb, fun j u hu => hc j u ?_⟩
  rw [cellsU_take, List.getElem?_take] at hu
  split at hu
  · exact hu
  · cases hu

/-- How long a slice is: for a loop's measure. -/
def lenOf : Value → Nat
  | .slice _ k _ => k
  | _ => 0

set_option maxRecDepth 100000 in
set_option maxHeartbeats 1000000 in
theorem exact_trim (A : Option Addr) (c : Nat) (xs : List Nat) (hx : Limbs xs) (hc : xs.length ≤ c) (hm : c ≤ 9223372036854775807) (B : Nat) (w : World) (hr : ReadsU w B A xs) :
    Calls Tryd.prog 55 #[.slice A xs.length c] w fun e w' => e = .returned (.slice A (natL (val xs)).length c) ∧ w = w' := by
  have HR := Lib.hid hr
  have HX := Lib.hid hx
  clear hr hx
  go_enter Tryd.func55, Tryd.ntmps55
  go_wp2_with fail
  go_loop [0] (fun v => ∃ k : Nat, v = .slice A k c ∧ k ≤ xs.length ∧ natL (val (xs.take k)) = natL (val xs)) (fun v => lenOf v)
  case atStart => exact ⟨xs.length, rfl, Nat.le_refl _, by rw [List.take_length]⟩
  case round =>
    obtain ⟨k, rfl, hk, hv⟩ := hrel
    have HV := Lib.hid hv
    clear hv
    cases k with
    | zero =>
      go_wp2_with fail
      go_ret
      exact ⟨by rw [← HV.out]; rfl, rfl⟩
    | succ k =>
      obtain ⟨ad, rfl, -, hcell⟩ := HR.out.get (k := k) (by omega)
      by_cases h0 : xs[k] = 0
      · have HZ := Lib.hid h0
        rw [h0] at hcell
        clear h0
        go_wp2_with fail
        go_round
        case rel => exact ⟨k, rfl, by omega, by rw [← natL_take_nought (by omega) HZ.out]; exact HV.out⟩
        case measure => simp [lenOf]
      · have hb : ((xs[k] : Int) == 0) = false := by simp; omega
        have HZ := Lib.hid h0
        clear h0
        go_wp2_with fail
        go_ret
        refine ⟨?_, rfl⟩
        have e := HV.out
        rw [natL_val (limbs_take HX.out _) (canon_of_get (by omega) HZ.out)] at e
        rw [← e, List.length_take, Nat.min_eq_left hk]; rfl
end Go.Proofs.YtpcdiijmhllejaaDoor
