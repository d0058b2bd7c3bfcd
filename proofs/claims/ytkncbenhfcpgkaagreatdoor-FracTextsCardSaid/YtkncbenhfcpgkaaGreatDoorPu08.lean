/- Several texts in one: Fine, Ops, Answer, Twin2. -/
import Derived.Test.YtkncbenhfcpgkaaGreatDoorPu05
import Derived.Test.YtkncbenhfcpgkaaGreatDoorPu04
import Derived.Test.YtkncbenhfcpgkaaGreatDoorPu01
import Derived.Test.YtkncbenhfcpgkaaGreatDoorPu03
import Derived.Test.YtkncbenhfcpgkaaGreatDoorPu02
import Derived.Test.YtkncbenhfcpgkaaGreatDoorPu07
import Derived.Test.YtkncbenhfcpgkaaGreatDoorPu06
set_option maxRecDepth 100000
set_option maxHeartbeats 8000000
/- fine, Cmp of package whole and of the references. (Written by wip/exact/genfine.py.) -/
namespace Go.Proofs.YtkncbenhfcpgkaaGreatDoor
open Go.RowKit

/- Minus, Times, told; Add, Sub, Mul of package whole and of the references. (Written by wip/exact/genops.py.) -/

theorem ival_at (x : Int) : ival (decide (x < 0)) (natL x.natAbs) = x := by
  unfold ival
  rw [val_natL]
  by_cases h : x < 0
  · simp [h]; omega
  · simp [h]; omega
structure IntAt (w : World) (v : Value) (x : Int) : Prop where
  form : ∃ A c, v = .agg #[.bool (decide (x < 0)), .slice A (natL x.natAbs).length c] ∧ Raw w A c (natL x.natAbs)
theorem IntAt.below {w w' : World} {v : Value} {x : Int} (h : IntAt w v x) (hb : Below w.heap.size w w') : IntAt w' v x := by
  obtain ⟨A, c, h1, h2⟩ := h.form
  exact ⟨A, c, h1, h2.below hb⟩
theorem IntOwn.at_ {w : World} {base : Nat} {v : Value} {x : Int} (h : IntOwn w base v x) : IntAt w v x := ⟨h.raw⟩
theorem Raw.cut {w : World} {A : Option Addr} {c : Nat} {xs : List Nat} (h : Raw w A c xs) : Raw w A c (natL (val xs)) := by
  have hle := natL_val_le h.limbs
  have hr := h.reads.take (natL (val xs)).length
  rw [← natL_take h.limbs] at hr
  exact ⟨limbs_natL _, Nat.le_trans hle h.cap, h.most, hr⟩
theorem Raw.none_ (w : World) : Raw w none 0 [] := ⟨by simp [Limbs], Nat.le_refl _, by omega, ⟨by simp [cellsU], fun h => absurd h (by simp)⟩⟩
theorem IntAt.nought (w : World) : IntAt w (.agg #[.bool false, .slice none 0 0]) 0 := ⟨none, 0, rfl, Raw.none_ w⟩
def RetAt (w : World) (x : Int) (e : Ending) (w' : World) : Prop := ∃ v, e = .returned v ∧ IntAt w' v x ∧ Below w.heap.size w w'
def sv (neg : Bool) (A : Option Addr) (c : Nat) (xs : List Nat) : Value := if val xs = 0 then .agg #[.bool false, .slice none 0 0] else .agg #[.bool neg, .slice A (natL (val xs)).length c]
theorem sv_form (neg : Bool) (A : Option Addr) (c : Nat) (xs : List Nat) : ∃ b A' k c', sv neg A c xs = .agg #[.bool b, .slice A' k c'] := by
  unfold sv; split <;> exact ⟨_, _, _, _, rfl⟩
theorem IntAt.sv {w : World} {neg : Bool} {A : Option Addr} {c : Nat} {xs : List Nat} (h : Raw w A c xs) : IntAt w (sv neg A c xs) (ival neg xs) := by
  unfold Go.Proofs.YtkncbenhfcpgkaaGreatDoor.sv
  by_cases h0 : val xs = 0
  · rw [if_pos h0]
    have : ival neg xs = 0 := by unfold ival; rw [h0]; cases neg <;> rfl
    rw [this]; exact IntAt.nought w
  · rw [if_neg h0]
    have ha : (ival neg xs).natAbs = val xs := by unfold ival; split <;> omega
    have hn : decide (ival neg xs < 0) = neg := by unfold ival; cases neg <;> simp <;> omega
    exact ⟨A, c, by rw [ha, hn], by rw [ha]; exact h.cut⟩
theorem ref_signed_sv (neg : Bool) (A : Option Addr) (c : Nat) (xs : List Nat) (w : World) (h : Raw w A c xs) :
    Calls Tryz.prog 120 #[.bool neg, .slice A xs.length c] w fun e w' => e = .returned (sv neg A c xs) ∧ Below w.heap.size w w' := by
  unfold sv
  by_cases h0 : val xs = 0
  · rw [if_pos h0]; exact ref_signed_nought neg A c xs w h h0
  · rw [if_neg h0]; exact ref_signed_more neg A c xs w h h0
def RetInt2 (base : Nat) (w : World) (x : Int) (code : Int) (e : Ending) (w' : World) : Prop := ∃ v, e = .returned (.tuple #[v, .int .i64 code]) ∧ IntOwn w' base v x ∧ Below w.heap.size w w'
def toldV (z : Int) : Int := if (natL z.natAbs).length ≤ 2048 then z else 0
def toldE (z : Int) : Int := if (natL z.natAbs).length ≤ 2048 then 0 else 4

/- told, Add, Sub, Mul of package whole and of the references. (Written by wip/exact/gentold.py.) -/

theorem IntOwn.value {w : World} {base : Nat} {v : Value} {x : Int} (h : IntOwn w base v x) : ∃ A c, v = .agg #[.bool (decide (x < 0)), .slice A (natL x.natAbs).length c] ∧ (natL x.natAbs).length ≤ 9223372036854775807 := by
  obtain ⟨A, c, h1, h2, h3, _⟩ := h.form
  exact ⟨A, c, h1, by omega⟩

/- More of copies and sizes, for the laws' walks. -/

theorem TwinAt.far2 {w : World} {g g' : Nat} {xs : List Nat} (h : TwinAt w g xs) (hn : g ≠ g') (a b : Value) : TwinAt ((w.setCell ⟨g', 0, none⟩ a).setCell ⟨g', 1, none⟩ b) g xs := ⟨h.blk.far2 hn a b⟩
theorem keep_of {W w' : World} (q : Below W.heap.size W w') : Below W.heap.size W w' ∧ ∀ b o, b < W.heap.size → w'.cell? ⟨b, o, none⟩ = W.cell? ⟨b, o, none⟩ :=
  ⟨q, fun b o h => q.cell (p := ⟨b, o, none⟩) h⟩

end Go.Proofs.YtkncbenhfcpgkaaGreatDoor
