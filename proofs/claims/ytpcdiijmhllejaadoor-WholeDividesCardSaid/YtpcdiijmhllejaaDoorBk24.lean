/- Several texts in one: Own. -/
import Derived.Test.YtpcdiijmhllejaaDoorBk18
import Derived.Test.YtpcdiijmhllejaaDoorBk23
/- A number of one's own; two results that share no memory; own of package exact. -/
namespace Go.Proofs.YtpcdiijmhllejaaDoor
open Go.RowKit

theorem exact_signed_sv (neg : Bool) (A : Option Addr) (c : Nat) (xs : List Nat) (w : World) (h : Raw w A c xs) :
    Calls Tryd.prog 47 #[.bool neg, .slice A xs.length c] w fun e w' => e = .returned (sv neg A c xs) ∧ Below w.heap.size w w' := by
  unfold sv
  by_cases h0 : val xs = 0
  · rw [if_pos h0]; exact exact_signed_nought neg A c xs w h h0
  · rw [if_neg h0]; exact exact_signed_more neg A c xs w h h0
theorem IntOwn.sv {w : World} {base : Nat} {neg : Bool} {A : Option Addr} {c : Nat} {zs : List Nat} (hz : Limbs zs) (h : w.ownsRow base 48 1 (.slice A zs.length c) zs.length (cellsU zs)) (hc : zs.length ≤ c) (hm : c ≤ 9223372036854775807) : IntOwn w base (sv neg A c zs) (ival neg zs) := by
  unfold Go.Proofs.YtpcdiijmhllejaaDoor.sv
  by_cases h0 : val zs = 0
  · rw [if_pos h0]
    have : ival neg zs = 0 := by unfold ival; rw [h0]; cases neg <;> rfl
    rw [this]; exact IntOwn.nought _ _
  · rw [if_neg h0]
    exact IntOwn.signed hz h hc hm rfl h0
/-- The block that a number's limbs lie in. -/
def blkOf : Value → Option Nat
  | .agg #[_, s] => s.ownBlock
  | _ => none
theorem sv_blk {neg : Bool} {a : Addr} {c : Nat} {zs : List Nat} {g : Nat} (h : blkOf (sv neg (some a) c zs) = some g) : a.block = g := by
  unfold sv at h
  split at h
  · cases h
  · exact Option.some.inj h
/-- Two numbers of a call's own that share no memory. -/
structure Ints2 (w : World) (base : Nat) (v1 : Value) (z1 : Int) (v2 : Value) (z2 : Int) : Prop where
  one : IntOwn w base v1 z1
  two : IntOwn w base v2 z2
  apart : ∀ g, blkOf v1 = some g → blkOf v2 ≠ some g
theorem Ints2.below {w w' : World} {base : Nat} {v1 v2 : Value} {z1 z2 : Int} (h : Ints2 w base v1 z1 v2 z2) (hb : Below w.heap.size w w') : Ints2 w' base v1 z1 v2 z2 := ⟨h.one.below hb, h.two.below hb, h.apart⟩
theorem Ints2.base {w : World} {b b' : Nat} {v1 v2 : Value} {z1 z2 : Int} (h : Ints2 w b v1 z1 v2 z2) (hb : b' ≤ b) : Ints2 w b' v1 z1 v2 z2 := ⟨h.one.base hb, h.two.base hb, h.apart⟩
theorem Ints2.pair {w : World} {g base : Nat} {a b : Value} {v1 v2 : Value} {z1 z2 : Int} (h : Ints2 w base v1 z1 v2 z2) (hne : g < base) : Ints2 ((w.setCell ⟨g, 0, none⟩ a).setCell ⟨g, 1, none⟩ b) base v1 z1 v2 z2 := ⟨h.one.pair hne, h.two.pair hne, h.apart⟩
/-- A call that hands back two such numbers. -/
def RetTwo (base : Nat) (w : World) (z1 z2 : Int) (e : Ending) (w' : World) : Prop := ∃ v1 v2, e = .returned (.tuple #[v1, v2]) ∧ Ints2 w' base v1 z1 v2 z2 ∧ Below w.heap.size w w'

set_option maxRecDepth 100000 in
set_option maxHeartbeats 1000000 in
theorem exact_own (n1 : Bool) (A : Option Addr) (c : Nat) (xs : List Nat) (hl : xs.length ≤ 1073741824) (w : World) (h : Raw w A c xs) :
    Calls Tryd.prog 43 #[.bool n1, .slice A xs.length c] w (RetInt w.heap.size w (ival n1 xs)) := by
  have pr := Pair.new w 24 (.bool false) (.slice none 0 0)
  have b0 := (Below.refl w.heap.size w).alloc (Nat.le_refl _) (.cells #[.bool false, .slice none 0 0] 24)
  have rx := h.alloc (.cells #[.bool false, .slice none 0 0] 24)
  clear h
  go_enter Tryd.func43, Tryd.ntmps43
  obtain ⟨W, E⟩ : ∃ W, W = w.alloc (.cells #[.bool false, .slice none 0 0] 24) := ⟨_, rfl⟩
  have C1 := Lib.hid (slices_Clone A c xs hl W (by rw [E]; exact rx))
  go_wp2_with fail
  rw [← E] at pr b0 ⊢
  have hsz : w.heap.size + 1 = W.heap.size := by rw [E]; simp
  clear E rx
  have PR := Lib.hid pr
  have B0 := Lib.hid b0
  clear pr b0
  refine C1.out.mono ?_
  rintro e w1 ⟨v, rfl, hv, hb1⟩
  obtain ⟨A1, c1, rfl, h2, h3, h4⟩ := hv.form
  have C2 := Lib.hid (exact_signed_sv n1 A1 c1 xs w1 ⟨hv.limbs, h2, h3, Reads.of_own h4⟩)
  have I1 := Lib.hid (IntOwn.sv (neg := n1) hv.limbs h4 h2 h3)
  have B1 := Lib.hid (belowTo B0.out hb1)
  have P1 := Lib.hid (PR.out.below hb1)
  obtain ⟨b9, A9, k9, c9, hsv⟩ := sv_form n1 A1 c1 xs
  rw [hsv] at C2 I1
  clear C1 PR hv h4 hb1 hsv
  go_wp2_with fail
  refine C2.out.mono ?_
  rintro e w2 ⟨rfl, hb2⟩
  have pr := P1.out.below hb2
  obtain ⟨q1, q2, q3, q4, q5⟩ := pr.facts
  have hI := (I1.out.below hb2).pair (g := w.heap.size) (a := .bool b9) (b := .slice A9 k9 c9) (by omega)
  have hB := below2 (belowTo B1.out hb2) (Nat.le_refl _) (.bool b9) (.slice A9 k9 c9)
  have hq := pr.store (.bool b9) (.slice A9 k9 c9)
  have HI := Lib.hid hI
  have HB := Lib.hid hB
  have HQ := Lib.hid hq
  clear C2 I1 B1 P1 hb2 pr hI hB hq
  go_wp2_with fail
  obtain ⟨_, k0, k1, _, _⟩ := HQ.out.facts
  exact bodyPost_ret (by simp [results, Tryd.results43, go_sem, k0, k1]) rfl ⟨_, rfl, HI.out.base (by omega), HB.out⟩
end Go.Proofs.YtpcdiijmhllejaaDoor
