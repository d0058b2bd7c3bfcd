/- Several texts in one: Trim, Signed. -/
import Derived.Test.YtbdliabfdplohaaDoorBt02
import Derived.Test.YtbdliabfdplohaaDoorBtHd
import Derived.Test.YtbdliabfdplohaaDoorProg
import Derived.WalkKit
import Derived.WalkSpells
import Derived.WalkLawsBesides
import Derived.Lib.Hide
set_option maxRecDepth 100000
set_option maxHeartbeats 8000000
/- Limbs in memory; trim, signed. -/
namespace Go.Proofs.YtbdliabfdplohaaDoor
open Go.RowKit

def cellsU (xs : List Nat) : List Value := xs.map fun x : Nat => .int .u32 (x : Int)
theorem cellsU_length (xs : List Nat) : (cellsU xs).length = xs.length := by simp [cellsU]
theorem cellsU_get {xs : List Nat} {k : Nat} (h : k < xs.length) : (cellsU xs)[k]? = some (.int .u32 xs[k]) := by simp [cellsU, h]
theorem cellsU_take (xs : List Nat) (k : Nat) : cellsU (xs.take k) = (cellsU xs).take k := by simp [cellsU, List.map_take]
abbrev ReadsU (w : World) (B : Nat) (A : Option Addr) (xs : List Nat) : Prop := Reads w B 1 A xs.length (cellsU xs)
theorem ReadsU.get {w : World} {B : Nat} {A : Option Addr} {xs : List Nat} (h : ReadsU w B A xs) {k : Nat} (hk : k < xs.length) :
    ∃ ad, A = some ad ∧ ad.block < B ∧ w.cell? (ad.add k) = some (.int .u32 xs[k]) := by
  obtain ⟨ad, e, hb, hc⟩ := h.2 (by omega)
  exact ⟨ad, e, hb, hc k _ (cellsU_get hk)⟩
theorem ReadsU.take {w : World} {B : Nat} {A : Option Addr} {xs : List Nat} (h : ReadsU w B A xs) (k : Nat) : ReadsU w B A (xs.take k) := by
  refine ⟨by rw [cellsU_length]; simp, fun hn => ?_⟩
  obtain ⟨ad, e, hb, hc⟩ := h.2 (by simp at hn; omega)
  refine ⟨ad, e, hb, fun j u hu => hc j u ?_⟩
  rw [cellsU_take, List.getElem?_take] at hu
  split at hu
  · exact hu
  · cases hu

def lenOf : Value → Nat
  | .slice _ k _ => k
  | _ => 0

theorem exact_trim (A : Option Addr) (c : Nat) (xs : List Nat) (hx : Limbs xs) (hc : xs.length ≤ c) (hm : c ≤ 9223372036854775807) (B : Nat) (w : World) (hr : ReadsU w B A xs) :
    Calls Tryd.prog 30 #[.slice A xs.length c] w fun e w' => e = .returned (.slice A (natL (val xs)).length c) ∧ w = w' := by
  have HR := Hd hr
  have HX := Hd hx
  clear hr hx
  go_enter Tryd.func30, Tryd.ntmps30
  go_wp2_with fail
  go_loop [0] (fun v => ∃ k : Nat, v = .slice A k c ∧ k ≤ xs.length ∧ natL (val (xs.take k)) = natL (val xs)) (fun v => lenOf v)
  case atStart => exact ⟨xs.length, rfl, Nat.le_refl _, by rw [List.take_length]⟩
  case round =>
    obtain ⟨k, rfl, hk, hv⟩ := hrel
    have HV := Hd hv
    clear hv
    cases k with
    | zero =>
      go_wp2_with fail
      go_ret
      exact ⟨by rw [← HV.out]; rfl, rfl⟩
    | succ k =>
      obtain ⟨ad, rfl, -, hcell⟩ := HR.out.get (k := k) (by omega)
      by_cases h0 : xs[k] = 0
      · have HZ := Hd h0
        rw [h0] at hcell
        clear h0
        go_wp2_with fail
        go_round
        case rel => exact ⟨k, rfl, by omega, by rw [← natL_take_nought (by omega) HZ.out]; exact HV.out⟩
        case measure => simp [lenOf]
      · have hb : ((xs[k] : Int) == 0) = false := by simp; omega
        have HZ := Hd h0
        clear h0
        go_wp2_with fail
        go_ret
        refine ⟨?_, rfl⟩
        have e := HV.out
        rw [natL_val (limbs_take HX.out _) (canon_of_get (by omega) HZ.out)] at e
        rw [← e, List.length_take, Nat.min_eq_left hk]; rfl
/- signed, Of: a number's memory. -/

structure Raw (w : World) (A : Option Addr) (c : Nat) (xs : List Nat) : Prop where
  limbs : Limbs xs
  cap : xs.length ≤ c
  most : c ≤ 9223372036854775807
  reads : ReadsU w w.heap.size A xs
theorem Raw.below {w w' : World} {A : Option Addr} {c : Nat} {xs : List Nat} (h : Raw w A c xs) (hb : Below w.heap.size w w') : Raw w' A c xs :=
  ⟨h.limbs, h.cap, h.most, (h.reads.below hb).more hb.size⟩
theorem Raw.alloc {w : World} {A : Option Addr} {c : Nat} {xs : List Nat} (h : Raw w A c xs) (o : Obj) : Raw (w.alloc o) A c xs := h.below ((Below.refl _ _).alloc (Nat.le_refl _) o)

theorem exact_signed_nought (neg : Bool) (A : Option Addr) (c : Nat) (xs : List Nat) (w : World) (h : Raw w A c xs) (hv : val xs = 0) :
    Calls Tryd.prog 39 #[.bool neg, .slice A xs.length c] w fun e w' => e = .returned (.agg #[.bool false, .slice none 0 0]) ∧ Below w.heap.size w w' := by
  have C := exact_trim A c xs h.limbs h.cap h.most (w.heap.size) (w.alloc (.cells #[.bool false, .slice none 0 0] 24)) (h.reads.alloc (Nat.le_refl _) _)
  rw [hv, natL_zero, List.length_nil] at C
  have HC := Hd C
  clear C hv
  go_enter Tryd.func39, Tryd.ntmps39
  go_wp2_with (first | (go_at_call 30; with_reducible refine HC.out.mono ?_; rintro e w' ⟨rfl, rfl⟩))
  exact bodyPost_ret (by simp [results, Tryd.results39, go_sem]) rfl ⟨rfl, by repeat (first | exact Below.refl _ _ | apply Below.drew | refine Below.alloc ?_ (by simp; try omega) _)⟩

theorem exact_signed_more (neg : Bool) (A : Option Addr) (c : Nat) (xs : List Nat) (w : World) (h : Raw w A c xs) (hv : val xs ≠ 0) :
    Calls Tryd.prog 39 #[.bool neg, .slice A xs.length c] w fun e w' => e = .returned (.agg #[.bool neg, .slice A (natL (val xs)).length c]) ∧ Below w.heap.size w w' := by
  have C := exact_trim A c xs h.limbs h.cap h.most (w.heap.size) (w.alloc (.cells #[.bool false, .slice none 0 0] 24)) (h.reads.alloc (Nat.le_refl _) _)
  have hne : (natL (val xs)).length ≠ 0 := fun h0 => hv (natL_eq_nil.1 (List.eq_nil_of_length_eq_zero h0))
  have hle := natL_val_le h.limbs
  have h1 := h.cap
  have h2 := h.most
  have HC := Hd C
  clear C hv h
  generalize (natL (val xs)).length = n at *
  have hb : ((n : Int) == 0) = false := by simp; omega
  go_enter Tryd.func39, Tryd.ntmps39
  go_wp2_with (first | (go_at_call 30; with_reducible refine HC.out.mono ?_; rintro e w' ⟨rfl, rfl⟩))
  exact bodyPost_ret (by simp [results, Tryd.results39, go_sem]) rfl ⟨rfl, by repeat (first | exact Below.refl _ _ | apply Below.drew | refine Below.alloc ?_ (by simp; try omega) _)⟩

structure IntOwn (w : World) (base : Nat) (v : Value) (x : Int) : Prop where
  form : ∃ A c, v = .agg #[.bool (decide (x < 0)), .slice A (natL x.natAbs).length c] ∧ (natL x.natAbs).length ≤ c ∧ c ≤ 9223372036854775807 ∧ w.ownsRow base 40 1 (.slice A (natL x.natAbs).length c) (natL x.natAbs).length (cellsU (natL x.natAbs))

theorem IntOwn.nought (w : World) (base : Nat) : IntOwn w base (.agg #[.bool false, .slice none 0 0]) 0 :=
  ⟨none, 0, rfl, Nat.le_refl _, by omega, World.ownsRow_nil _ _ _ _⟩
theorem IntOwn.below {w w' : World} {base : Nat} {v : Value} {x : Int} (h : IntOwn w base v x) (hb : Below w.heap.size w w') : IntOwn w' base v x := by
  obtain ⟨A, c, h1, h2, h3, h4⟩ := h.form
  exact ⟨A, c, h1, h2, h3, own_below h4 hb⟩
theorem IntOwn.alloc {w : World} {base : Nat} {v : Value} {x : Int} (h : IntOwn w base v x) (o : Obj) : IntOwn (w.alloc o) base v x := h.below ((Below.refl _ _).alloc (Nat.le_refl _) o)
theorem IntOwn.raw {w : World} {base : Nat} {v : Value} {x : Int} (h : IntOwn w base v x) : ∃ A c, v = .agg #[.bool (decide (x < 0)), .slice A (natL x.natAbs).length c] ∧ Raw w A c (natL x.natAbs) := by
  obtain ⟨A, c, h1, h2, h3, h4⟩ := h.form
  exact ⟨A, c, h1, limbs_natL _, h2, h3, Reads.of_own h4⟩
theorem own_take {w : World} {base : Nat} {e : TypeId} {A : Option Addr} {n c k : Nat} {xs : List Value} (h : w.ownsRow base e 1 (.slice A n c) n xs) (hk : k ≤ n) (hk0 : k ≠ 0) : w.ownsRow base e 1 (.slice A k c) k (xs.take k) := by
  rcases h.2 with ⟨h1, h2⟩ | ⟨g, cap, cur, h1, h2, h3, h4, h5, h6, h7⟩
  · omega
  · injection h1 with a1 a2 a3
    subst a1 a3
    have hl := h.1
    refine ⟨by rw [List.length_take]; omega, .inr ⟨g, c, cur, rfl, h2, h3, by omega, h5, h6, ?_⟩⟩
    rw [← h7, List.take_take, Nat.min_eq_left (by omega), Nat.mul_one]
theorem IntOwn.signed {w : World} {base : Nat} {A : Option Addr} {c : Nat} {xs : List Nat} (hx : Limbs xs) (h : w.ownsRow base 40 1 (.slice A xs.length c) xs.length (cellsU xs)) (hc : xs.length ≤ c) (hm : c ≤ 9223372036854775807) {x : Int} {neg : Bool} (hxv : x = if neg then -(val xs : Int) else val xs) (hv : val xs ≠ 0) :
    IntOwn w base (.agg #[.bool neg, .slice A (natL (val xs)).length c]) x := by
  have ha : x.natAbs = val xs := by rw [hxv]; split <;> omega
  have hn : decide (x < 0) = neg := by rw [hxv]; cases neg <;> simp <;> omega
  have hle := natL_val_le hx
  have hne : (natL (val xs)).length ≠ 0 := fun h0 => hv (natL_eq_nil.1 (List.eq_nil_of_length_eq_zero h0))
  refine ⟨A, c, by rw [ha, hn], by rw [ha]; omega, hm, ?_⟩
  rw [ha]
  have := own_take h hle hne
  rw [← cellsU_take, ← natL_take hx] at this
  exact this
end Go.Proofs.YtbdliabfdplohaaDoor
