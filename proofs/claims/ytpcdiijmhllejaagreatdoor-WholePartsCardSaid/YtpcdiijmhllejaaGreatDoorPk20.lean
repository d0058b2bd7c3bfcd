/- Several texts in one: Keep. -/
import Derived.Test.YtpcdiijmhllejaaGreatDoorPk19
/- keepLimb: a list is put into a Book. -/
namespace Go.Proofs.YtpcdiijmhllejaaGreatDoor
open Go.RowKit
theorem heldInfo : (Tryz.prog.info? 79).map (fun i => (i.zero, i.size, i.bytes)) = some (some (.agg #[nilS, nilS, .int .i64 0]), 3, 56) := by kernel_rfl

set_option maxRecDepth 100000 in
set_option maxHeartbeats 2000000 in
theorem keep_limb (b m : Nat) (l : Nat → Value) (lims : Value) (vA : Option Addr) (vn vc : Nat) (hm : m ≤ 1000) (w : World) (h : Keep w b m l lims) :
    Calls Tryz.prog 38 #[.pointer (some ⟨b, 0, none⟩), .slice vA vn vc] w fun e w' => e = .returned (.tuple #[]) ∧ ∃ lims', Keep w' b (m + 1) (updV l m (.slice vA vn vc)) lims' ∧ Below b w w' := by
  obtain ⟨i0, hi, hz0, hz1, hz2⟩ := info_parts heldInfo
  have hb := h.book
  have hrow := h.row
  have hlt := hb.lt
  have c0 := hb.cell 0
  have f0 := hb.frozen 0
  simp at c0
  have hadd : IntKind.i64.wrap ((m : Int) + 1) = ((m + 1 : Nat) : Int) := by rw [IntWalk.i64_in _ (by omega)]; omega
  clear h
  have HB := Lib.hid hb
  have HR := Lib.hid hrow
  clear hb hrow
  go_enter Tryz.func38, Tryz.ntmps38
  go_wp2_with fail
  have hW : Blk (w.setCell ⟨b, 0, none⟩ (.int .i64 ((m : Int) + 1))) b tBook #[.int .i64 ((m : Int) + 1), lims, nilS, nilS, nilS, nilS, nilS, nilS, nilS, nilS, nilS, nilS, nilS, nilS, nilS, nilS, nilS] := HB.out.set_ 0 _
  have hrW := ownsRow_setCell_below HR.out (a := ⟨b, 0, none⟩) (Nat.lt_succ_self b) (.int .i64 ((m : Int) + 1))
  have hbW : Below b w (w.setCell ⟨b, 0, none⟩ (.int .i64 ((m : Int) + 1))) := (Below.refl b w).setCell (p := ⟨b, 0, none⟩) (Nat.le_refl _) _
  obtain ⟨W, E⟩ : ∃ W, W = w.setCell ⟨b, 0, none⟩ (.int .i64 ((m : Int) + 1)) := ⟨_, rfl⟩
  rw [← E] at hW hrW hbW ⊢
  clear E HB HR c0 f0
  have hltW := hW.lt
  have HW := Lib.hid hW
  have HR := Lib.hid hrW
  have HB := Lib.hid hbW
  clear hW hrW hbW hadd
  refine wp_region_stepsB [.val (.pointer (some ⟨b, 0, none⟩)), .val (.pointer (some ⟨b, 0, none⟩)), .val (.pointer (some ⟨b, 0, none⟩)), .val (.pointer (some ⟨b, 1, none⟩)), .val lims, .val (.slice vA vn vc), .val (.pointer (some ⟨b, 0, none⟩)), .val (.pointer (some ⟨b, 0, none⟩)), .val (.pointer (some ⟨b, 0, none⟩)), .val (.int .i64 ((m : Int) + 1)), .val (.agg #[.slice vA vn vc, nilS, .int .i64 ((m : Int) + 1)]), .step, .step, .step, .step, .step] 4 5 (b + 1) W (by omega)
    (fun us V => match us with
      | [] => V.ownsRow (b + 1) tHeld 3 lims m (heldCells l m)
      | [u0] => V.ownsRow (b + 1) tHeld 3 lims m (heldCells l m) ∧ ∃ g, u0 = .slice (some ⟨g, 0, none⟩) 1 1 ∧ Reads V V.heap.size 3 (some ⟨g, 0, none⟩) 1 [.slice vA vn vc, nilS, .int .i64 ((m : Int) + 1)]
      | [_, u1] => V.ownsRow (b + 1) tHeld 3 u1 (m + 1) (heldCells (updV l m (.slice vA vn vc)) (m + 1))
      | [_, u1, u2] => u2 = .pointer (some ⟨b, 0, none⟩) ∧ V.ownsRow (b + 1) tHeld 3 u1 (m + 1) (heldCells (updV l m (.slice vA vn vc)) (m + 1))
      | [_, u1, _, u3] => u3 = .pointer (some ⟨b, 1, none⟩) ∧ V.ownsRow (b + 1) tHeld 3 u1 (m + 1) (heldCells (updV l m (.slice vA vn vc)) (m + 1))
      | _ => False)
    (fun _ V => ∃ lims', Keep V b (m + 1) (updV l m (.slice vA vn vc)) lims' ∧ Below b w V)
    _ mixedOrders2 (by kernel_rfl) (by kernel_rfl) (by kernel_rfl) (by kernel_rfl) (by kernel_rfl) (by kernel_rfl) (by kernel_rfl) (by kernel_rfl) (by kernel_rfl) rfl ?_ (Below.refl _ _) HR.out.drew ?_ ?_ ?_
  · intro us V V' hg hb
    match us, hg with
    | [], hg => exact own_below hg hb
    | [u0], ⟨h1, g, h2, h3⟩ => exact ⟨own_below h1 hb, g, h2, (h3.below hb).more hb.size⟩
    | [_, u1], hg => exact own_below hg hb
    | [_, u1, u2], hg => exact ⟨hg.1, own_below hg.2 hb⟩
    | [_, u1, u2, u3], hg => exact ⟨hg.1, own_below hg.2 hb⟩
  · simp [ValsOk, chainAct, fill, pairs, valAt]
    repeat' apply And.intro
    all_goals
      intro V hV
      have hx := HW.out.below hV (Nat.lt_succ_self b)
      have c0 := hx.cell 0
      have c1 := hx.cell 1
      simp at c0 c1
      clear hV hx
      go_simp
      try exact Below.refl _ _
  · simp [StepsOk, chainAct, fill, pairs, valAt, stepNo, List.filter, Stp.isStep]
    refine ⟨fun V hV hr => ?_, fun u0 => ⟨fun V hV hr g hu hrd => ?_, fun u1 => ⟨fun V hV hr => ?_, fun u2 => ⟨fun V hV hu2 hr => ?_, fun u3 V hV hu3 hr => ?_⟩⟩⟩⟩
    · go_simp
      exact ⟨hV.alloc (by have := hV.size; omega) _, own_below hr ((Below.refl _ _).alloc (Nat.le_refl _) _), Reads.new1 V _ 3 _ rfl⟩
    · subst hu
      have hsz := hV.size
      refine wp_append_any V (.tmp 15) (.tmp 22) _ rfl (b + 1) tHeld i0 _ 3 56 Tryz.underlying33 hi hz0 hz1 hz2 rfl (by omega) lims m (heldCells l m) rfl hr V.heap.size (some ⟨g, 0, none⟩) 1 1 [.slice vA vn vc, nilS, .int .i64 ((m : Int) + 1)] rfl hrd (by simp [Value.oneCell']) (by unfold maxLen; omega) (by omega) (by omega) ?_
      intro v' w' ho hg hat
      refine ⟨v', rfl, hV.grown hg (by omega) (fun k hk => (hr.lt k hk).1), ?_⟩
      rw [heldCells_more, show ((m + 1 : Nat) : Int) = (m : Int) + 1 by omega]
      exact ho
    · go_simp
      try exact ⟨hV, hr⟩
    · subst hu2
      go_simp
      try exact ⟨hV, hr⟩
    · subst hu3
      obtain ⟨A1, k1, rfl⟩ := own_form (by omega) hr
      have hx := HW.out.below hV (Nat.lt_succ_self b)
      have c1 := hx.cell 1
      have f1 := hx.frozen 1
      simp at c1
      go_simp
      refine ⟨⟨.slice A1 (m + 1) k1, ?_, ?_⟩, (HB.out.trans (hV.mono (Nat.le_succ b))).setCell (p := ⟨b, 1, none⟩) (Nat.le_refl _) _⟩
      · have := hx.set_ 1 (.slice A1 (m + 1) k1)
        exact this
      · exact ownsRow_setCell_below hr (a := ⟨b, 1, none⟩) (Nat.lt_succ_self b) _
  · intro us V hus hF
    simp only [show ¬ (5 ≤ 4) by decide, if_false] at hF
    have HF := Lib.hid hF
    obtain ⟨u0, u1, u2, u3, u4, rfl⟩ : ∃ u0 u1 u2 u3 u4, us = [u0, u1, u2, u3, u4] := by
      match us, hus with
      | [u0, u1, u2, u3, u4], _ => exact ⟨u0, u1, u2, u3, u4, rfl⟩
    simp [chainAct, fill, pairs, valAt, stepNo, List.filter, Stp.isStep]
    clear hF HW HR HB
    go_wp2_with fail
    exact bodyPost_end (v := .tuple #[]) (by simp [results, Tryz.results38, go_sem]) rfl ⟨rfl, HF.out⟩
theorem Keep.below {w w' : World} {b m : Nat} {l : Nat → Value} {lims : Value} (h : Keep w b m l lims) (hb : Below w.heap.size w w') : Keep w' b m l lims :=
  ⟨h.book.below hb h.book.lt, own_below h.row hb⟩

set_option maxRecDepth 100000 in
set_option maxHeartbeats 1000000 in
theorem book_Int (b m : Nat) (l : Nat → Value) (lims : Value) (neg : Bool) (vA : Option Addr) (vn vc : Nat) (hm : m ≤ 1000) (w : World) (h : Keep w b m l lims) :
    Calls Tryz.prog 17 #[.pointer (some ⟨b, 0, none⟩), .agg #[.bool neg, .slice vA vn vc]] w fun e w' => e = .returned (.tuple #[]) ∧ ∃ lims', Keep w' b (m + 1) (updV l m (.slice vA vn vc)) lims' ∧ Below b w w' := by
  have hlt := h.book.lt
  have C := Lib.hid (keep_limb b m l lims vA vn vc hm _ (h.below ((Below.refl _ _).alloc (Nat.le_refl _) (.cells #[.bool neg, .slice vA vn vc] 24))))
  have hb := Lib.hid (((Below.refl w.heap.size w).alloc (Nat.le_refl _) (.cells #[.bool neg, .slice vA vn vc] 24)).mono (Nat.le_of_lt hlt))
  clear h
  go_enter Tryz.func17, Tryz.ntmps17
  go_wp2_with fail
  refine C.out.mono ?_
  rintro e w' ⟨rfl, lims', hk, hb2⟩
  have HF := Lib.hid (⟨lims', hk, hb.out.trans hb2⟩ : ∃ lims', Keep w' b (m + 1) (updV l m (.slice vA vn vc)) lims' ∧ Below b w w')
  clear C hb hk hb2
  go_wp2_with fail
  exact bodyPost_end (v := .tuple #[]) (by simp [results, Tryz.results17, go_sem]) rfl ⟨rfl, HF.out⟩
end Go.Proofs.YtpcdiijmhllejaaGreatDoor
