/- Several texts in one: Zq1, Intsq1, KeepFar, Quad. -/
import Derived.Test.YtkncbenhfcpgkaaGreatDoorPu18
import Derived.Test.YtkncbenhfcpgkaaGreatDoorPu14
import Derived.Test.YtkncbenhfcpgkaaGreatDoorPu16
import Derived.Test.YtkncbenhfcpgkaaGreatDoorPu24
import Derived.Test.YtkncbenhfcpgkaaGreatDoorPu08
import Derived.Test.YtkncbenhfcpgkaaGreatDoorPu23
import Derived.Test.YtkncbenhfcpgkaaGreatDoorPu05
import Derived.Test.YtkncbenhfcpgkaaGreatDoorPu17
import Derived.Test.YtkncbenhfcpgkaaGreatDoorPu03
import Derived.Test.YtkncbenhfcpgkaaGreatDoorPu02
import Derived.Test.YtkncbenhfcpgkaaGreatDoorPu01
import Derived.Test.YtkncbenhfcpgkaaGreatDoorPu22
import Derived.Test.YtkncbenhfcpgkaaGreatDoorPu13
import Derived.Test.YtkncbenhfcpgkaaGreatDoorPu12
import Derived.Test.YtkncbenhfcpgkaaGreatDoorPu06
import Derived.Test.YtkncbenhfcpgkaaGreatDoorPu04
import Derived.Test.YtkncbenhfcpgkaaGreatDoorPu15
import Derived.Test.YtkncbenhfcpgkaaGreatDoorPu09
import Derived.Test.YtkncbenhfcpgkaaGreatDoorPu07
import Derived.Test.YtkncbenhfcpgkaaGreatDoorPu11
import Derived.Test.YtkncbenhfcpgkaaGreatDoorPu20
import Derived.Test.YtkncbenhfcpgkaaGreatDoorPu19
import Derived.Test.YtkncbenhfcpgkaaGreatDoorPuHd
set_option maxRecDepth 100000
set_option maxHeartbeats 8000000
/- The calls of package exact over numbers, told by the numbers alone. (Written by wip/exact/genz.py.) -/
namespace Go.Proofs.YtkncbenhfcpgkaaGreatDoor
open Go.RowKit
theorem eminus (x y z : Int) (A B : Option Addr) (c d : Nat) (w : World) (h : Raw w A c (natL x.natAbs)) (g : Raw w B d (natL y.natAbs)) (hx : lz x ≤ 500000000) (hy : lz y ≤ 500000000) (hz : z = x - y) :
    Calls Tryz.prog 229 #[.agg #[.bool (decide (x < 0)), .slice A (natL x.natAbs).length c], .agg #[.bool (decide (y < 0)), .slice B (natL y.natAbs).length d]] w (RetInt w.heap.size w z) := by
  have := exact_Minus (decide (x < 0)) (decide (y < 0)) A B c d (natL x.natAbs) (natL y.natAbs) (canon_natL _) (canon_natL _) (by unfold lz at hx; omega) (by unfold lz at hy; omega) w h g
  rw [ival_at, ival_at, ← hz] at this
  exact this
theorem ecommon (x y z : Int) (A B : Option Addr) (c d : Nat) (w : World) (h : Raw w A c (natL x.natAbs)) (g : Raw w B d (natL y.natAbs)) (hx : lz x ≤ 500000000) (hy : lz y ≤ 500000000) (hz : z = ((Nat.gcd x.natAbs y.natAbs : Nat) : Int)) :
    Calls Tryz.prog 170 #[.agg #[.bool (decide (x < 0)), .slice A (natL x.natAbs).length c], .agg #[.bool (decide (y < 0)), .slice B (natL y.natAbs).length d]] w (RetInt w.heap.size w z) := by
  have := exact_Common (decide (x < 0)) (decide (y < 0)) A B c d (natL x.natAbs) (natL y.natAbs) (by unfold lz at hx; omega) (by unfold lz at hy; omega) w h g
  rw [val_natL, val_natL, ← hz] at this
  exact this
theorem esign (x k : Int) (A : Option Addr) (c : Nat) (w : World) (h : Raw w A c (natL x.natAbs)) (hk : k = x.sign) :
    Calls Tryz.prog 162 #[.agg #[.bool (decide (x < 0)), .slice A (natL x.natAbs).length c]] w fun e w' => e = .returned (.int .i64 k) ∧ Below w.heap.size w w' := by
  have := exact_Sign_any (decide (x < 0)) A c _ w h
  rw [sgn_z, ← hk] at this
  exact this
/- The calls of package whole over numbers that may be, told by the numbers alone. -/

theorem RetInt2.n2 {base : Nat} {w w' : World} {z k : Int} {e : Ending} (h : RetInt2 base w z k e w') : RetN2 w z k e w' := by
  obtain ⟨v, rfl, hv, hb⟩ := h
  obtain ⟨A, c, rfl, hr⟩ := hv.raw
  exact ⟨A, c, rfl, hr, hb⟩
theorem RetInt.n1 {base : Nat} {w w' : World} {z : Int} {e : Ending} (h : RetInt base w z e w') : RetN1 w z e w' := by
  obtain ⟨v, rfl, hv, hb⟩ := h
  obtain ⟨A, c, rfl, hr⟩ := hv.raw
  exact ⟨A, c, rfl, hr, hb⟩
section
variable (x y z : Int) (A B : Option Addr) (c d : Nat) (hx : Fit x) (hy : Fit y) (w : World) (h : Raw w A c (natL x.natAbs)) (g : Raw w B d (natL y.natAbs))
include hx hy h g
end
/- keepLimb leaves a block that is not the Book's as it is. (Written by wip/book/genkeepfar.py.) -/

theorem keep_far (g0 : Nat) (T0 : TypeId) (cs0 : Array Value) (hT0 : T0 ≠ tHeld) (b m : Nat) (hg0 : g0 ≠ b) (l : Nat → Value) (lims : Value) (vA : Option Addr) (vn vc : Nat) (hm : m ≤ 1000) (w : World) (h : Keep w b m l lims) (hx0 : Blk w g0 T0 cs0) :
    Calls Tryz.prog 41 #[.pointer (some ⟨b, 0, none⟩), .slice vA vn vc] w fun e w' => e = .returned (.tuple #[]) ∧ ∃ lims', Keep w' b (m + 1) (updV l m (.slice vA vn vc)) lims' ∧ Below b w w' ∧ Blk w' g0 T0 cs0 := by
  obtain ⟨i0, hi, hz0, hz1, hz2⟩ := info_parts heldInfo
  have hb := h.book
  have hrow := h.row
  have hlt := hb.lt
  have c0 := hb.cell 0
  have f0 := hb.frozen 0
  simp at c0
  have hadd : IntKind.i64.wrap ((m : Int) + 1) = ((m + 1 : Nat) : Int) := by rw [IntWalk.i64_in _ (by omega)]; omega
  clear h
  have HB := Hd hb
  have HR := Hd hrow
  clear hb hrow
  go_enter Tryz.func41, Tryz.ntmps41
  go_wp2_with fail
  have hW : Blk (w.setCell ⟨b, 0, none⟩ (.int .i64 ((m : Int) + 1))) b tBook #[.int .i64 ((m : Int) + 1), lims, nilS, nilS, nilS, nilS, nilS, nilS, nilS, nilS, nilS, nilS, nilS, nilS, nilS, nilS, nilS] := HB.out.set_ 0 _
  have hrW := ownsRow_setCell_below HR.out (a := ⟨b, 0, none⟩) (Nat.lt_succ_self b) (.int .i64 ((m : Int) + 1))
  have hbW : Below b w (w.setCell ⟨b, 0, none⟩ (.int .i64 ((m : Int) + 1))) := (Below.refl b w).setCell (p := ⟨b, 0, none⟩) (Nat.le_refl _) _
  have hgW : Blk (w.setCell ⟨b, 0, none⟩ (.int .i64 ((m : Int) + 1))) g0 T0 cs0 := by
    unfold Blk at hx0 ⊢
    rw [Below.heap_setCell _ ⟨b, 0, none⟩ _ g0 hg0]
    exact hx0
  clear hx0
  obtain ⟨W, E⟩ : ∃ W, W = w.setCell ⟨b, 0, none⟩ (.int .i64 ((m : Int) + 1)) := ⟨_, rfl⟩
  rw [← E] at hW hrW hbW hgW ⊢
  clear E HB HR c0 f0
  have hltW := hW.lt
  have HW := Hd hW
  have HR := Hd hrW
  have HB := Hd hbW
  have HG := Hd hgW
  clear hW hrW hbW hgW hadd
  refine wp_region_stepsB [.val (.pointer (some ⟨b, 0, none⟩)), .val (.pointer (some ⟨b, 0, none⟩)), .val (.pointer (some ⟨b, 0, none⟩)), .val (.pointer (some ⟨b, 1, none⟩)), .val lims, .val (.slice vA vn vc), .val (.pointer (some ⟨b, 0, none⟩)), .val (.pointer (some ⟨b, 0, none⟩)), .val (.pointer (some ⟨b, 0, none⟩)), .val (.int .i64 ((m : Int) + 1)), .val (.agg #[.slice vA vn vc, nilS, .int .i64 ((m : Int) + 1)]), .step, .step, .step, .step, .step] 4 5 (b + 1) W (by omega)
    (fun us V => match us with
      | [] => V.ownsRow (b + 1) tHeld 3 lims m (heldCells l m) ∧ Blk V g0 T0 cs0
      | [u0] => V.ownsRow (b + 1) tHeld 3 lims m (heldCells l m) ∧ Blk V g0 T0 cs0 ∧ ∃ g, u0 = .slice (some ⟨g, 0, none⟩) 1 1 ∧ Reads V V.heap.size 3 (some ⟨g, 0, none⟩) 1 [.slice vA vn vc, nilS, .int .i64 ((m : Int) + 1)]
      | [_, u1] => V.ownsRow (b + 1) tHeld 3 u1 (m + 1) (heldCells (updV l m (.slice vA vn vc)) (m + 1)) ∧ Blk V g0 T0 cs0
      | [_, u1, u2] => u2 = .pointer (some ⟨b, 0, none⟩) ∧ V.ownsRow (b + 1) tHeld 3 u1 (m + 1) (heldCells (updV l m (.slice vA vn vc)) (m + 1)) ∧ Blk V g0 T0 cs0
      | [_, u1, _, u3] => u3 = .pointer (some ⟨b, 1, none⟩) ∧ V.ownsRow (b + 1) tHeld 3 u1 (m + 1) (heldCells (updV l m (.slice vA vn vc)) (m + 1)) ∧ Blk V g0 T0 cs0
      | _ => False)
    (fun _ V => ∃ lims', Keep V b (m + 1) (updV l m (.slice vA vn vc)) lims' ∧ Below b w V ∧ Blk V g0 T0 cs0)
    _ mixedOrders2 (by kernel_rfl) (by kernel_rfl) (by kernel_rfl) (by kernel_rfl) (by kernel_rfl) (by kernel_rfl) (by kernel_rfl) (by kernel_rfl) (by kernel_rfl) rfl ?_ (Below.refl _ _) ⟨HR.out.drew, HG.out.below (Below.refl _ _).drew HG.out.lt⟩ ?_ ?_ ?_
  · intro us V V' hg hb
    match us, hg with
    | [], hg => exact ⟨own_below hg.1 hb, hg.2.below hb hg.2.lt⟩
    | [u0], ⟨h1, h0, g, h2, h3⟩ => exact ⟨own_below h1 hb, h0.below hb h0.lt, g, h2, (h3.below hb).more hb.size⟩
    | [_, u1], hg => exact ⟨own_below hg.1 hb, hg.2.below hb hg.2.lt⟩
    | [_, u1, u2], hg => exact ⟨hg.1, own_below hg.2.1 hb, hg.2.2.below hb hg.2.2.lt⟩
    | [_, u1, u2, u3], hg => exact ⟨hg.1, own_below hg.2.1 hb, hg.2.2.below hb hg.2.2.lt⟩
  · simp [ValsOk, chainAct, fill, pairs, valAt]
    repeat' apply And.intro
    all_goals
      intro V hV
      have hx := HW.out.below hV (Nat.lt_succ_self b)
      have c0 := hx.cell 0
      have c1 := hx.cell 1
      simp at c0 c1
      clear hV hx
      go_simp
      try exact Below.refl _ _
  · simp [StepsOk, chainAct, fill, pairs, valAt, stepNo, List.filter, Stp.isStep]
    refine ⟨fun V hV hr hx0 => ?_, fun u0 => ⟨fun V hV hr hx0 g hu hrd => ?_, fun u1 => ⟨fun V hV hr hx0 => ?_, fun u2 => ⟨fun V hV hu2 hr hx0 => ?_, fun u3 V hV hu3 hr hx0 => ?_⟩⟩⟩⟩
    · go_simp
      exact ⟨hV.alloc (by have := hV.size; omega) _, own_below hr ((Below.refl _ _).alloc (Nat.le_refl _) _), hx0.alloc _, Reads.new1 V _ 3 _ rfl⟩
    · subst hu
      have hsz := hV.size
      refine wp_append_any V (.tmp 15) (.tmp 22) _ rfl (b + 1) tHeld i0 _ 3 56 Tryz.underlying34 hi hz0 hz1 hz2 rfl (by omega) lims m (heldCells l m) rfl hr V.heap.size (some ⟨g, 0, none⟩) 1 1 [.slice vA vn vc, nilS, .int .i64 ((m : Int) + 1)] rfl hrd (by simp [Value.oneCell']) (by unfold maxLen; omega) (by omega) (by omega) ?_
      intro v' w' ho hg hat
      refine ⟨v', rfl, hV.grown hg (by omega) (fun k hk => (hr.lt k hk).1), ?_⟩
      rw [heldCells_more, show ((m + 1 : Nat) : Int) = (m : Int) + 1 by omega]
      exact ⟨ho, hx0.grown hg (Ne.symm (own_blk_ne hr hx0 hT0.symm))⟩
    · go_simp
      try exact ⟨hV, hr, hx0⟩
    · subst hu2
      go_simp
      try exact ⟨hV, hr, hx0⟩
    · subst hu3
      obtain ⟨A1, k1, rfl⟩ := own_form (by omega) hr
      have hx := HW.out.below hV (Nat.lt_succ_self b)
      have c1 := hx.cell 1
      have f1 := hx.frozen 1
      simp at c1
      go_simp
      refine ⟨⟨.slice A1 (m + 1) k1, ?_, ?_⟩, (HB.out.trans (hV.mono (Nat.le_succ b))).setCell (p := ⟨b, 1, none⟩) (Nat.le_refl _) _, by
        unfold Blk at hx0 ⊢
        rw [Below.heap_setCell _ ⟨b, 1, none⟩ _ g0 hg0]
        exact hx0⟩
      · have := hx.set_ 1 (.slice A1 (m + 1) k1)
        exact this
      · exact ownsRow_setCell_below hr (a := ⟨b, 1, none⟩) (Nat.lt_succ_self b) _
  · intro us V hus hF
    simp only [show ¬ (5 ≤ 4) by decide, if_false] at hF
    have HF := Hd hF
    obtain ⟨u0, u1, u2, u3, u4, rfl⟩ : ∃ u0 u1 u2 u3 u4, us = [u0, u1, u2, u3, u4] := by
      match us, hus with
      | [u0, u1, u2, u3, u4], _ => exact ⟨u0, u1, u2, u3, u4, rfl⟩
    simp [chainAct, fill, pairs, valAt, stepNo, List.filter, Stp.isStep]
    clear hF HW HR HB HG
    go_wp2_with fail
    exact bodyPost_end (v := .tuple #[]) (by simp [results, Tryz.results41, go_sem]) rfl ⟨rfl, HF.out⟩

theorem book_Int_far (g0 : Nat) (T0 : TypeId) (cs0 : Array Value) (hT0 : T0 ≠ tHeld) (b m : Nat) (hg0 : g0 ≠ b) (l : Nat → Value) (lims : Value) (neg : Bool) (vA : Option Addr) (vn vc : Nat) (hm : m ≤ 1000) (w : World) (h : Keep w b m l lims) (hx0 : Blk w g0 T0 cs0) :
    Calls Tryz.prog 14 #[.pointer (some ⟨b, 0, none⟩), .agg #[.bool neg, .slice vA vn vc]] w fun e w' => e = .returned (.tuple #[]) ∧ ∃ lims', Keep w' b (m + 1) (updV l m (.slice vA vn vc)) lims' ∧ Below b w w' ∧ Blk w' g0 T0 cs0 := by
  have hlt := h.book.lt
  have C := Hd (keep_far g0 T0 cs0 hT0 b m hg0 l lims vA vn vc hm _ (h.below ((Below.refl _ _).alloc (Nat.le_refl _) (.cells #[.bool neg, .slice vA vn vc] 24))) (hx0.alloc _))
  have hb := Hd (((Below.refl w.heap.size w).alloc (Nat.le_refl _) (.cells #[.bool neg, .slice vA vn vc] 24)).mono (Nat.le_of_lt hlt))
  clear h hx0
  go_enter Tryz.func14, Tryz.ntmps14
  go_wp2_with fail
  refine C.out.mono ?_
  rintro e w' ⟨rfl, lims', hk, hb2, hx⟩
  have HF := Hd (⟨lims', hk, hb.out.trans hb2, hx⟩ : ∃ lims', Keep w' b (m + 1) (updV l m (.slice vA vn vc)) lims' ∧ Below b w w' ∧ Blk w' g0 T0 cs0)
  clear C hb hk hb2 hx
  go_wp2_with fail
  exact bodyPost_end (v := .tuple #[]) (by simp [results, Tryz.results14, go_sem]) rfl ⟨rfl, HF.out⟩
/- Fractions in memory: four cells; what a fraction in lowest terms is. -/

structure Quad (w : World) (g : Nat) (a b c d : Value) : Prop where
  blk : Blk w g 56 #[a, b, c, d]
theorem Quad.new (w : World) (a b c d : Value) : Quad (w.alloc (.cells #[a, b, c, d] 56)) w.heap.size a b c d := ⟨Blk.new w _ _⟩
theorem Quad.alloc {w : World} {g : Nat} {a b c d : Value} (h : Quad w g a b c d) (o : Obj) : Quad (w.alloc o) g a b c d := ⟨h.blk.alloc o⟩
theorem Quad.below {w w' : World} {g : Nat} {a b c d : Value} (h : Quad w g a b c d) (hb : Below w.heap.size w w') : Quad w' g a b c d := ⟨h.blk.below hb h.blk.lt⟩
theorem Quad.facts {w : World} {g : Nat} {a b c d : Value} (h : Quad w g a b c d) : g < w.heap.size ∧ w.cell? ⟨g, 0, none⟩ = some a ∧ w.cell? ⟨g, 1, none⟩ = some b ∧ w.cell? ⟨g, 2, none⟩ = some c ∧ w.cell? ⟨g, 3, none⟩ = some d ∧
    w.frozen? ⟨g, 0, none⟩ = false ∧ w.frozen? ⟨g, 1, none⟩ = false ∧ w.frozen? ⟨g, 2, none⟩ = false ∧ w.frozen? ⟨g, 3, none⟩ = false :=
  ⟨h.blk.lt, h.blk.cell 0, h.blk.cell 1, h.blk.cell 2, h.blk.cell 3, h.blk.frozen 0, h.blk.frozen 1, h.blk.frozen 2, h.blk.frozen 3⟩
theorem Quad.store {w : World} {g : Nat} {a b c d : Value} (h : Quad w g a b c d) (x y z u : Value) : Quad ((((w.setCell ⟨g, 0, none⟩ x).setCell ⟨g, 1, none⟩ y).setCell ⟨g, 2, none⟩ z).setCell ⟨g, 3, none⟩ u) g x y z u := ⟨h.blk.store4 rfl x y z u⟩
theorem Blk.mem {w : World} {g : Nat} {t : TypeId} {cs : Array Value} (h : Blk w g t cs) {a : Addr} {v : Value} (hc : w.cell? a = some v) (e : a.block = g) : v ∈ cs := by
  subst e
  unfold Blk at h
  unfold World.cell? at hc
  rw [h] at hc
  simp only at hc
  split at hc
  · cases hc
  · exact Array.mem_of_getElem? hc
theorem Raw.keepFar {w w' : World} {A : Option Addr} {c g : Nat} {xs : List Nat} (h : Raw w A c xs) (hs : w.heap.size ≤ w'.heap.size) (hg : ∀ b, b ≠ g → w'.heap[b]? = w.heap[b]?) (hno : ∀ a k n, w.cell? a = some (.int k n) → a.block ≠ g) : Raw w' A c xs := by
  refine ⟨h.limbs, h.cap, h.most, h.reads.1, fun h0 => ?_⟩
  obtain ⟨ad, e, hb, hc⟩ := h.reads.2 h0
  refine ⟨ad, e, Nat.lt_of_lt_of_le hb hs, fun j u hu => ?_⟩
  have h1 := hc j u hu
  have h2 : (ad.add j).block ≠ g := by
    have hj : j < xs.length := by
      have := (List.getElem?_eq_some_iff.1 hu).1
      rwa [cellsU_length] at this
    rw [cellsU_get hj] at hu
    rw [← hu] at h1
    exact hno _ _ _ h1
  unfold World.cell? at h1 ⊢
  rw [hg _ h2]
  exact h1
theorem Raw.quad {w : World} {A : Option Addr} {c g : Nat} {xs : List Nat} (h : Raw w A c xs) {b1 b2 : Bool} {A1 A2 : Option Addr} {n1 n2 c1 c2 : Nat} (q : Quad w g (.bool b1) (.slice A1 n1 c1) (.bool b2) (.slice A2 n2 c2)) (x y z u : Value) :
    Raw ((((w.setCell ⟨g, 0, none⟩ x).setCell ⟨g, 1, none⟩ y).setCell ⟨g, 2, none⟩ z).setCell ⟨g, 3, none⟩ u) A c xs := by
  refine h.keepFar (g := g) (by simp [World.setCell]) (fun b hb => ?_) (fun a k n hc e => ?_)
  · rw [Below.heap_setCell _ ⟨g, 3, none⟩ u b hb, Below.heap_setCell _ ⟨g, 2, none⟩ z b hb, Below.heap_setCell _ ⟨g, 1, none⟩ y b hb, Below.heap_setCell _ ⟨g, 0, none⟩ x b hb]
  · have := q.blk.mem hc e
    simp at this
theorem Raw.pairT {w : World} {A : Option Addr} {c g : Nat} {xs : List Nat} (h : Raw w A c xs) {t : TypeId} {b1 : Bool} {A1 : Option Addr} {n1 c1 : Nat} (q : Pair w g t (.bool b1) (.slice A1 n1 c1)) (x y : Value) :
    Raw ((w.setCell ⟨g, 0, none⟩ x).setCell ⟨g, 1, none⟩ y) A c xs := by
  refine h.keepFar (g := g) (by simp [World.setCell]) (fun b hb => ?_) (fun a k n hc e => ?_)
  · rw [Below.heap_setCell _ ⟨g, 1, none⟩ y b hb, Below.heap_setCell _ ⟨g, 0, none⟩ x b hb]
  · have := q.blk.mem hc e
    simp at this
structure FV (w : World) (g : Nat) (n d : Int) (A : Option Addr) (c : Nat) (B : Option Addr) (e : Nat) : Prop where
  quad : Quad w g (.bool (decide (n < 0))) (.slice A (natL n.natAbs).length c) (.bool (decide (d < 0))) (.slice B (natL d.natAbs).length e)
  num : Raw w A c (natL n.natAbs)
  den : Raw w B e (natL d.natAbs)
theorem FV.below {w w' : World} {g : Nat} {n d : Int} {A : Option Addr} {c : Nat} {B : Option Addr} {e : Nat} (h : FV w g n d A c B e) (hb : Below w.heap.size w w') : FV w' g n d A c B e := ⟨h.quad.below hb, h.num.below hb, h.den.below hb⟩
structure FracAt (w : World) (v : Value) (n d : Int) : Prop where
  form : ∃ A c B e, v = .agg #[.bool (decide (n < 0)), .slice A (natL n.natAbs).length c, .bool (decide (d < 0)), .slice B (natL d.natAbs).length e] ∧ Raw w A c (natL n.natAbs) ∧ Raw w B e (natL d.natAbs)
theorem FracAt.below {w w' : World} {v : Value} {n d : Int} (h : FracAt w v n d) (hb : Below w.heap.size w w') : FracAt w' v n d := by
  obtain ⟨A, c, B, e, h1, h2, h3⟩ := h.form
  exact ⟨A, c, B, e, h1, h2.below hb, h3.below hb⟩
def RetFrac (w : World) (n d : Int) (e : Ending) (w' : World) : Prop := ∃ v, e = .returned v ∧ FracAt w' v n d ∧ Below w.heap.size w w'
structure FracOwn (w : World) (base : Nat) (v : Value) (n d : Int) : Prop where
  form : ∃ A c B e, v = .agg #[.bool (decide (n < 0)), .slice A (natL n.natAbs).length c, .bool (decide (d < 0)), .slice B (natL d.natAbs).length e] ∧ IntOwn w base (.agg #[.bool (decide (n < 0)), .slice A (natL n.natAbs).length c]) n ∧ IntOwn w base (.agg #[.bool (decide (d < 0)), .slice B (natL d.natAbs).length e]) d ∧ ∀ g, (Value.slice A (natL n.natAbs).length c).ownBlock = some g → (Value.slice B (natL d.natAbs).length e).ownBlock ≠ some g
def RetFracOwn (base : Nat) (w : World) (n d : Int) (e : Ending) (w' : World) : Prop := ∃ v, e = .returned v ∧ FracOwn w' base v n d ∧ Below w.heap.size w w'
def RetFracOwn2 (base : Nat) (w : World) (n d k : Int) (e : Ending) (w' : World) : Prop := ∃ v, e = .returned (.tuple #[v, .int .i64 k]) ∧ FracOwn w' base v n d ∧ Below w.heap.size w w'

def gcdZ (n d : Int) : Int := ((Nat.gcd n.natAbs d.natAbs : Nat) : Int)
def lowN (n d : Int) : Int := if d < 0 then -(n.tdiv (gcdZ n d)) else n.tdiv (gcdZ n d)
def lowD (n d : Int) : Int := if d < 0 then -(d.tdiv (gcdZ n d)) else d.tdiv (gcdZ n d)
theorem gcdZ_pos {n d : Int} (h : d ≠ 0) : 0 < gcdZ n d := by
  unfold gcdZ
  have := Nat.gcd_pos_of_pos_right n.natAbs (show 0 < d.natAbs by omega)
  omega
theorem gcdZ_lz {n d : Int} (h : d ≠ 0) : lz (gcdZ n d) ≤ lz d := lz_mono (by
  unfold gcdZ
  rw [Int.natAbs_natCast]
  exact Nat.gcd_le_right _ (by omega))
theorem tdiv_lz (n g : Int) : lz (n.tdiv g) ≤ lz n := lz_mono (by rw [Int.natAbs_tdiv]; exact Nat.div_le_self _ _)
theorem tdiv_sign {n d : Int} (h : d ≠ 0) : (d.tdiv (gcdZ n d)).sign = d.sign := by
  have hp := gcdZ_pos (n := n) h
  have hd : gcdZ n d ∣ d := by
    unfold gcdZ
    exact Int.natAbs_dvd_natAbs.1 (by rw [Int.natAbs_natCast]; exact Nat.gcd_dvd_right _ _)
  obtain ⟨k, hk⟩ := hd
  have e : d.tdiv (gcdZ n d) = k := by
    conv => lhs; arg 1; rw [hk]
    exact Int.mul_tdiv_cancel_left _ (by omega)
  rw [e]
  conv => rhs; rw [hk]
  rw [Int.sign_mul, Int.sign_eq_one_of_pos hp, Int.one_mul]
end Go.Proofs.YtkncbenhfcpgkaaGreatDoor
