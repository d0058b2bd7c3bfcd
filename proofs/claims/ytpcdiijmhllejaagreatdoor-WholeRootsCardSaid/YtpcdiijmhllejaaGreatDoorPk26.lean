/- Several texts in one: KeptAt, BitsVal, BitsLz. -/
import Derived.Test.YtpcdiijmhllejaaGreatDoorPk19
import Derived.Test.YtpcdiijmhllejaaGreatDoorPk10
import Derived.Test.YtpcdiijmhllejaaGreatDoorPk03
import Derived.Test.YtpcdiijmhllejaaGreatDoorPk18
import Derived.Test.YtpcdiijmhllejaaGreatDoorPk22
/- Numbers at hand where memory only grows; stores that change nothing. -/
namespace Go.Proofs.YtpcdiijmhllejaaGreatDoor
open Go.RowKit

theorem KeptV.cells {B : Nat} {w w' : World} (k : KeptV B [] w w') : ∀ p : Addr, p.block < w.heap.size → w'.cell? p = w.cell? p := fun p hp => by
  rcases k.block p.block hp with e | ⟨-, T, hT, -⟩
  · unfold World.cell?; rw [e]
  · cases hT
theorem IntAt.keptNone {B : Nat} {w w' : World} {v : Value} {x : Int} (h : IntAt w v x) (k : KeptV B [] w w') : IntAt w' v x := by
  obtain ⟨A, c, h1, h2⟩ := h.form
  exact ⟨A, c, h1, h2.limbs, h2.cap, h2.most, (h2.reads.keep k.cells).more k.size⟩

theorem set_same2 {w : World} {g : Nat} {t : TypeId} {a b : Value} (h : Pair w g t a b) : (w.setCell ⟨g, 0, none⟩ a).setCell ⟨g, 1, none⟩ b = w := by
  have e : ((w.setCell ⟨g, 0, none⟩ a).setCell ⟨g, 1, none⟩ b).heap = w.heap := by
    refine Array.ext_getElem? fun k => ?_
    by_cases hk : k = g
    · subst hk
      have h1 := (h.store a b).blk
      have h2 := h.blk
      unfold Blk at h1 h2
      rw [h1, h2]
    · rw [Below.heap_setCell _ ⟨g, 1, none⟩ b k hk, Below.heap_setCell w ⟨g, 0, none⟩ a k hk]
  unfold World.setCell at e ⊢
  simp only at e
  rw [e]
/-- A number of the call's own, its limbs where they lie. -/
theorem IntOwn.rawAt {w : World} {base c : Nat} {A : Option Addr} {x : Int} (h : IntOwn w base (.agg #[.bool (decide (x < 0)), .slice A (natL x.natAbs).length c]) x) : Raw w A c (natL x.natAbs) := by
  obtain ⟨A', c', h1, h2⟩ := h.raw
  injection h1 with h1
  simp at h1
  obtain ⟨rfl, rfl⟩ := h1
  exact h2
/-- Stores into a variable leave limbs as they are. -/
theorem IntOwn.pairT {w : World} {base g : Nat} {v a b : Value} {x : Int} (h : IntOwn w base v x) (p : Pair w g 24 a b) (y z : Value) : IntOwn ((w.setCell ⟨g, 0, none⟩ y).setCell ⟨g, 1, none⟩ z) base v x := by
  obtain ⟨A, c, h1, h2, h3, h4⟩ := h.form
  exact ⟨A, c, h1, h2, h3, own_pair h4 (own_blk_ne h4 p.blk (by decide))⟩
end Go.Proofs.YtpcdiijmhllejaaGreatDoor

/- How many bits a number has, told by the number. -/
namespace Go.Proofs.YtpcdiijmhllejaaGreatDoor

theorem bits_val {n : Nat} (hn : 0 < n) : 1 ≤ bitsI (natL n) ∧ 2 ^ (bitsI (natL n) - 1) ≤ n ∧ n < 2 ^ bitsI (natL n) := by
  have hl := limbs_natL n
  have hc := canon_natL n
  have hne : natL n ≠ [] := fun e => by have := natL_eq_nil.1 e; omega
  obtain ⟨ini, t, e⟩ : ∃ ini t, natL n = ini ++ [t] := ⟨(natL n).dropLast, (natL n).getLast hne, (List.dropLast_concat_getLast hne).symm⟩
  have hv := val_natL n
  rw [e] at hl hc hv
  have ht0 : t ≠ 0 := hc t (by simp)
  have ht := (limbs_append.1 hl).2 t (by simp)
  obtain ⟨h1, h2, h3, h4⟩ := bitLen32 t ht ht0
  have hb : bitsI (natL n) = 32 * ini.length + Lib.bitLen t := by
    unfold bitsI
    rw [e, if_neg (by simp)]
    simp
  rw [val_append] at hv
  have hs : val [t] = t := by simp [val]
  rw [hs] at hv
  have hlow := val_lt (limbs_append.1 hl).1
  rw [hb]
  rw [show (4294967296 : Nat) = 2 ^ 32 by decide, ← Nat.pow_mul] at hv hlow
  generalize hp : 32 * ini.length = p at *
  generalize hl' : Lib.bitLen t = l at *
  have e1 : 2 ^ (p + l) = 2 ^ p * 2 ^ l := Nat.pow_add _ _ _
  have e2 : 2 ^ l = 2 * 2 ^ (l - 1) := by rw [← Nat.pow_succ']; congr 1; omega
  have e3 : 2 ^ (p + l - 1) = 2 ^ p * 2 ^ (l - 1) := by rw [← Nat.pow_add]; congr 1; omega
  refine ⟨by omega, ?_, ?_⟩
  · rw [e3]
    have : 2 ^ p * 2 ^ (l - 1) ≤ 2 ^ p * t := Nat.mul_le_mul_left _ (by omega)
    omega
  · rw [e1]
    have : 2 ^ p * (t + 1) ≤ 2 ^ p * 2 ^ l := Nat.mul_le_mul_left _ h4
    rw [Nat.mul_add, Nat.mul_one] at this
    omega
theorem bits_mono {a b : Nat} (h : a ≤ b) : bitsI (natL a) ≤ bitsI (natL b) := by
  rcases Nat.eq_zero_or_pos a with h0 | h0
  · subst h0; rw [natL_zero]; exact Nat.zero_le _
  · obtain ⟨-, h1, -⟩ := bits_val h0
    obtain ⟨h2, -, h3⟩ := bits_val (show 0 < b by omega)
    have : 2 ^ (bitsI (natL a) - 1) < 2 ^ bitsI (natL b) := by omega
    have := (Nat.pow_lt_pow_iff_right (by omega)).1 this
    omega
end Go.Proofs.YtpcdiijmhllejaaGreatDoor

/- How many bits, how many limbs. -/
namespace Go.Proofs.YtpcdiijmhllejaaGreatDoor

/-- How many bits. -/
def bz (x : Int) : Nat := bitsI (natL x.natAbs)
theorem bits_two {x : Int} {L : Nat} (hx : lz x ≤ L) (h0 : x ≠ 0) : 1 ≤ bitsI (natL x.natAbs) ∧ bitsI (natL x.natAbs) ≤ 32 * L := by
  obtain ⟨h1, h2, h3⟩ := bits_val (show 0 < x.natAbs by omega)
  have h4 : x.natAbs < 4294967296 ^ L := lz_le.1 hx
  rw [show (4294967296 : Nat) = 2 ^ 32 by decide, ← Nat.pow_mul] at h4
  have := (Nat.pow_lt_pow_iff_right (by omega)).1 (Nat.lt_of_le_of_lt h2 h4)
  exact ⟨h1, by omega⟩
theorem bz_pos {x : Int} (hx : x ≠ 0) : 1 ≤ bz x := (bits_val (show 0 < x.natAbs by omega)).1
theorem lz_double {x : Int} (hx : x ≠ 0) (n L : Nat) : lz (x * ((2 ^ n : Nat) : Int)) ≤ L ↔ bz x + n ≤ 32 * L := by
  have hp : 0 < x.natAbs := by omega
  obtain ⟨h1, h2, h3⟩ := bits_val hp
  have h4 : lz (x * ((2 ^ n : Nat) : Int)) ≤ L ↔ x.natAbs * 2 ^ n < 2 ^ (32 * L) := by
    rw [lz_le, Int.natAbs_mul, Int.natAbs_natCast, show (4294967296 : Nat) = 2 ^ 32 by decide, ← Nat.pow_mul]
  have hb : bz x = bitsI (natL x.natAbs) := rfl
  rw [h4, hb]
  generalize bitsI (natL x.natAbs) = b at *
  generalize 32 * L = m
  constructor
  · intro h
    have h5 : 2 ^ (b - 1) * 2 ^ n < 2 ^ m := Nat.lt_of_le_of_lt (Nat.mul_le_mul_right _ h2) h
    rw [← Nat.pow_add] at h5
    have := (Nat.pow_lt_pow_iff_right (by omega)).1 h5
    omega
  · intro h
    have h5 : x.natAbs * 2 ^ n < 2 ^ b * 2 ^ n := Nat.mul_lt_mul_of_pos_right h3 (Nat.two_pow_pos n)
    rw [← Nat.pow_add] at h5
    exact Nat.lt_of_lt_of_le h5 (Nat.pow_le_pow_right (by omega) h)
end Go.Proofs.YtpcdiijmhllejaaGreatDoor
