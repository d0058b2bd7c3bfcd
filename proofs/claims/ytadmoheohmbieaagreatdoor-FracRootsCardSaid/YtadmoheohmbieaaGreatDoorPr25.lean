/- Several texts in one: Apart, Up, UpIn, FVar. -/
import Derived.Test.YtadmoheohmbieaaGreatDoorPr23
import Derived.Test.YtadmoheohmbieaaGreatDoorPr24
import Derived.Test.YtadmoheohmbieaaGreatDoorPr17
import Derived.Test.YtadmoheohmbieaaGreatDoorPr22
import Derived.Test.YtadmoheohmbieaaGreatDoorPr11
/- Apart: lists of limbs that share no memory pass. (Written by wip/book/gennil.py.) -/
namespace Go.Proofs.YtadmoheohmbieaaGreatDoor
open Go.RowKit

set_option maxRecDepth 100000 in
set_option maxHeartbeats 4000000 in
theorem apart_true (b g0 cap m B0 : Nat) (l : Nat → Value) (n : Nat → Nat) (X : Nat → List Value) (w0 w : World) (p : Plain b g0 m B0 l n) (h : Shelf w0 w b g0 cap m B0 l (fun _ => nilS) n X) :
    Calls Tryz.prog 23 #[.pointer (some ⟨b, 0, none⟩)] w fun e w' => e = .returned (.bool true) ∧ Below B0 w0 w' := by
  have hB0 := Lib.hid (Nat.le_of_lt (Nat.lt_of_le_of_lt p.hb h.book.lt))
  have HP := Lib.hid p
  have C0 := Lib.hid (fill_limb b g0 cap m B0 l n X w0 w p h)
  have C1 := Lib.hid (fun (V : World) (hV : Shelf w0 V b g0 cap m B0 l (fun _ => nilS) n (fun j => List.replicate (n j) (markU j))) => grow_limb b g0 cap m B0 l n w0 V p hV)
  have C2 := Lib.hid (fun (V : World) (long : Nat → Value) (hV : Grown w0 V b g0 cap m B0 l long n m) => look_limb b g0 cap m B0 l long n w0 V p hV)
  clear p h
  go_enter Tryz.func23, Tryz.ntmps23
  go_wp2_with fail
  refine C0.out.mono ?_
  rintro e w1 ⟨rfl, hs1⟩
  have HK := Lib.hid hs1.book
  have HS := Lib.hid hs1
  clear hs1 C0
  go_wp2_with (first
    | (go_at_call 73; with_reducible refine (fill_Number b m _ _ HK.out).mono ?_; rintro e w' ⟨rfl, rfl⟩)
    | (go_at_call 74; with_reducible refine (fill_Float b m _ _ HK.out).mono ?_; rintro e w' ⟨rfl, rfl⟩)
    | (go_at_call 75; with_reducible refine (fill_Complex b m _ _ HK.out).mono ?_; rintro e w' ⟨rfl, rfl⟩)
    | (go_at_call 76; with_reducible refine (fill_Text b m _ _ HK.out).mono ?_; rintro e w' ⟨rfl, rfl⟩)
    | (go_at_call 77; with_reducible refine (fill_Frac b m _ _ HK.out).mono ?_; rintro e w' ⟨rfl, rfl⟩)
    | (go_at_call 78; with_reducible refine (fill_Gauss b m _ _ HK.out).mono ?_; rintro e w' ⟨rfl, rfl⟩)
    | (go_at_call 79; with_reducible refine (fill_Ray b m _ _ HK.out).mono ?_; rintro e w' ⟨rfl, rfl⟩)
    | (go_at_call 80; with_reducible refine (fill_Element b m _ _ HK.out).mono ?_; rintro e w' ⟨rfl, rfl⟩)
    | (go_at_call 81; with_reducible refine (fill_Coat b m _ _ HK.out).mono ?_; rintro e w' ⟨rfl, rfl⟩)
    | (go_at_call 82; with_reducible refine (fill_Disc b m _ _ HK.out).mono ?_; rintro e w' ⟨rfl, rfl⟩)
    | (go_at_call 83; with_reducible refine (fill_Part b m _ _ HK.out).mono ?_; rintro e w' ⟨rfl, rfl⟩)
    | (go_at_call 84; with_reducible refine (fill_Def b m _ _ HK.out).mono ?_; rintro e w' ⟨rfl, rfl⟩)
    | (go_at_call 85; with_reducible refine (fill_Item b m _ _ HK.out).mono ?_; rintro e w' ⟨rfl, rfl⟩)
    | (go_at_call 86; with_reducible refine (fill_Act b m _ _ HK.out).mono ?_; rintro e w' ⟨rfl, rfl⟩)
    | (go_at_call 87; with_reducible refine (fill_Reply b m _ _ HK.out).mono ?_; rintro e w' ⟨rfl, rfl⟩))
  refine (C1.out _ HS.out).mono ?_
  rintro e w2 ⟨rfl, long, hg2⟩
  have HK := Lib.hid hg2.shelf.book
  have HG := Lib.hid hg2
  clear hg2 C1 HS
  go_wp2_with (first
    | (go_at_call 89; with_reducible refine (grow_Number b m _ _ HK.out).mono ?_; rintro e w' ⟨rfl, rfl⟩)
    | (go_at_call 90; with_reducible refine (grow_Float b m _ _ HK.out).mono ?_; rintro e w' ⟨rfl, rfl⟩)
    | (go_at_call 91; with_reducible refine (grow_Complex b m _ _ HK.out).mono ?_; rintro e w' ⟨rfl, rfl⟩)
    | (go_at_call 92; with_reducible refine (grow_Text b m _ _ HK.out).mono ?_; rintro e w' ⟨rfl, rfl⟩)
    | (go_at_call 93; with_reducible refine (grow_Frac b m _ _ HK.out).mono ?_; rintro e w' ⟨rfl, rfl⟩)
    | (go_at_call 94; with_reducible refine (grow_Gauss b m _ _ HK.out).mono ?_; rintro e w' ⟨rfl, rfl⟩)
    | (go_at_call 95; with_reducible refine (grow_Ray b m _ _ HK.out).mono ?_; rintro e w' ⟨rfl, rfl⟩)
    | (go_at_call 96; with_reducible refine (grow_Element b m _ _ HK.out).mono ?_; rintro e w' ⟨rfl, rfl⟩)
    | (go_at_call 97; with_reducible refine (grow_Coat b m _ _ HK.out).mono ?_; rintro e w' ⟨rfl, rfl⟩)
    | (go_at_call 98; with_reducible refine (grow_Disc b m _ _ HK.out).mono ?_; rintro e w' ⟨rfl, rfl⟩)
    | (go_at_call 99; with_reducible refine (grow_Part b m _ _ HK.out).mono ?_; rintro e w' ⟨rfl, rfl⟩)
    | (go_at_call 100; with_reducible refine (grow_Def b m _ _ HK.out).mono ?_; rintro e w' ⟨rfl, rfl⟩)
    | (go_at_call 101; with_reducible refine (grow_Item b m _ _ HK.out).mono ?_; rintro e w' ⟨rfl, rfl⟩)
    | (go_at_call 102; with_reducible refine (grow_Act b m _ _ HK.out).mono ?_; rintro e w' ⟨rfl, rfl⟩)
    | (go_at_call 103; with_reducible refine (grow_Reply b m _ _ HK.out).mono ?_; rintro e w' ⟨rfl, rfl⟩)
    | (go_at_call 104; with_reducible refine (C2.out _ long HG.out).mono ?_; rintro e w3 ⟨rfl, hb3⟩; have hk3 := HK.out.below hb3 HK.out.lt; have HK3 := Lib.hid hk3; clear hk3)
    | (go_at_call 105; with_reducible refine (look_Number b m _ _ HK3.out).mono ?_; rintro e w' ⟨rfl, rfl⟩)
    | (go_at_call 106; with_reducible refine (look_Float b m _ _ HK3.out).mono ?_; rintro e w' ⟨rfl, rfl⟩)
    | (go_at_call 107; with_reducible refine (look_Complex b m _ _ HK3.out).mono ?_; rintro e w' ⟨rfl, rfl⟩)
    | (go_at_call 108; with_reducible refine (look_Text b m _ _ HK3.out).mono ?_; rintro e w' ⟨rfl, rfl⟩)
    | (go_at_call 109; with_reducible refine (look_Frac b m _ _ HK3.out).mono ?_; rintro e w' ⟨rfl, rfl⟩)
    | (go_at_call 110; with_reducible refine (look_Gauss b m _ _ HK3.out).mono ?_; rintro e w' ⟨rfl, rfl⟩)
    | (go_at_call 111; with_reducible refine (look_Ray b m _ _ HK3.out).mono ?_; rintro e w' ⟨rfl, rfl⟩)
    | (go_at_call 112; with_reducible refine (look_Element b m _ _ HK3.out).mono ?_; rintro e w' ⟨rfl, rfl⟩)
    | (go_at_call 113; with_reducible refine (look_Coat b m _ _ HK3.out).mono ?_; rintro e w' ⟨rfl, rfl⟩)
    | (go_at_call 114; with_reducible refine (look_Disc b m _ _ HK3.out).mono ?_; rintro e w' ⟨rfl, rfl⟩)
    | (go_at_call 115; with_reducible refine (look_Part b m _ _ HK3.out).mono ?_; rintro e w' ⟨rfl, rfl⟩)
    | (go_at_call 116; with_reducible refine (look_Def b m _ _ HK3.out).mono ?_; rintro e w' ⟨rfl, rfl⟩)
    | (go_at_call 117; with_reducible refine (look_Item b m _ _ HK3.out).mono ?_; rintro e w' ⟨rfl, rfl⟩)
    | (go_at_call 118; with_reducible refine (look_Act b m _ _ HK3.out).mono ?_; rintro e w' ⟨rfl, rfl⟩)
    | (go_at_call 119; with_reducible refine (look_Reply b m _ _ HK3.out).mono ?_; rintro e w' ⟨rfl, rfl⟩))
  go_ret
  exact ⟨rfl, HG.out.shelf.low.trans (hb3.mono (by have := HG.out.shelf.book.lt; have := HP.out.hb; omega))⟩
end Go.Proofs.YtadmoheohmbieaaGreatDoor

/- Apart over a list of rows that lie one behind the other. -/
namespace Go.Proofs.YtadmoheohmbieaaGreatDoor
open Go.RowKit

/-- Rows of limbs, each in blocks of its own: from lo on, below hi. -/
def RowsUp (w : World) : Nat → List Value → Nat → Prop
  | lo, [], hi => lo ≤ hi
  | lo, v :: vs, hi => ∃ n X mid, n ≤ 1073741824 ∧ w.ownsRow lo tLimb 1 v n X ∧ (∀ g, v.ownBlock = some g → g < mid) ∧ lo ≤ mid ∧ RowsUp w mid vs hi
theorem RowsUp.below {w w' : World} (hb : Below w.heap.size w w') : ∀ {lo : Nat} {vs : List Value} {hi : Nat}, RowsUp w lo vs hi → RowsUp w' lo vs hi
  | _, [], _, h => h
  | _, _ :: _, _, ⟨n, X, mid, h1, h2, h3, h4, h5⟩ => ⟨n, X, mid, h1, own_below h2 hb, h3, h4, RowsUp.below hb h5⟩
theorem RowsUp.le {w : World} : ∀ {lo : Nat} {vs : List Value} {hi : Nat}, RowsUp w lo vs hi → lo ≤ hi
  | _, [], _, h => h
  | _, _ :: _, _, ⟨_, _, _, _, _, _, h4, h5⟩ => Nat.le_trans h4 (RowsUp.le h5)
theorem RowsUp.snoc {w : World} {v : Value} {n : Nat} {X : List Value} {hi hi' : Nat} (hn : n ≤ 1073741824) (ho : w.ownsRow hi tLimb 1 v n X) (hg : ∀ g, v.ownBlock = some g → g < hi') (hh : hi ≤ hi') : ∀ {lo : Nat} {vs : List Value}, RowsUp w lo vs hi → RowsUp w lo (vs ++ [v]) hi'
  | _, [], h => ⟨n, X, hi', hn, own_base ho h, hg, Nat.le_trans h hh, Nat.le_refl _⟩
  | _, _ :: _, ⟨n', X', mid, h1, h2, h3, h4, h5⟩ => ⟨n', X', mid, h1, h2, h3, h4, RowsUp.snoc hn ho hg hh h5⟩
where
  own_base {w : World} {b b' : Nat} {e : TypeId} {size n : Nat} {v : Value} {xs : List Value} (h : w.ownsRow b e size v n xs) (hb : b' ≤ b) : w.ownsRow b' e size v n xs := by
    refine ⟨h.1, ?_⟩
    rcases h.2 with h8 | ⟨g, cap, cur, k1, k2, k3⟩
    · exact .inl h8
    · exact .inr ⟨g, cap, cur, k1, Nat.le_trans hb k2, k3⟩
theorem RowsUp.up {w : World} {hi hi' : Nat} (hh : hi ≤ hi') : ∀ {lo : Nat} {vs : List Value}, RowsUp w lo vs hi → RowsUp w lo vs hi'
  | _, [], h => Nat.le_trans h hh
  | _, _ :: _, ⟨n', X', mid, h1, h2, h3, h4, h5⟩ => ⟨n', X', mid, h1, h2, h3, h4, RowsUp.up hh h5⟩
theorem RowsUp.row {w : World} : ∀ {lo : Nat} {vs : List Value} {hi : Nat}, RowsUp w lo vs hi → ∀ (j : Nat), j < vs.length → ∃ n X, n ≤ 1073741824 ∧ w.ownsRow lo tLimb 1 (vs.getD j nilS) n X ∧ ∀ g, (vs.getD j nilS).ownBlock = some g → g < hi
  | _, [], _, _, j, hj => by simp at hj
  | lo, v :: vs, hi, ⟨n, X, mid, h1, h2, h3, h4, h5⟩, 0, _ => ⟨n, X, h1, h2, fun g hg => Nat.lt_of_lt_of_le (h3 g hg) (RowsUp.le h5)⟩
  | lo, v :: vs, hi, ⟨n, X, mid, h1, h2, h3, h4, h5⟩, j + 1, hj => by
    obtain ⟨n', X', a1, a2, a3⟩ := RowsUp.row h5 j (by simpa using hj)
    exact ⟨n', X', a1, RowsUp.snoc.own_base a2 h4, a3⟩
theorem RowsUp.apart {w : World} : ∀ {lo : Nat} {vs : List Value} {hi : Nat}, RowsUp w lo vs hi → ∀ (j k : Nat), j < k → k < vs.length → ∀ g, (vs.getD j nilS).ownBlock = some g → (vs.getD k nilS).ownBlock ≠ some g
  | _, [], _, _, j, k, _, hk => by simp at hk
  | lo, v :: vs, hi, ⟨n, X, mid, h1, h2, h3, h4, h5⟩, 0, k + 1, _, hk => fun g hg hg2 => by
    obtain ⟨n', X', a1, a2, a3⟩ := RowsUp.row h5 k (by simpa using hk)
    have := (a2.lt g hg2).1
    have := h3 g hg
    omega
  | lo, v :: vs, hi, ⟨n, X, mid, h1, h2, h3, h4, h5⟩, j + 1, k + 1, hjk, hk => RowsUp.apart h5 j k (by omega) (by simpa using hk)

theorem Keep.cong {w : World} {b m : Nat} {l l' : Nat → Value} {lims : Value} (h : Keep w b m l lims) (e : ∀ j, j < m → l j = l' j) : Keep w b m l' lims := by
  have : heldCells l m = heldCells l' m := by
    unfold heldCells
    refine congrArg List.flatten (List.map_congr_left fun j hj => ?_)
    rw [e j (List.mem_range.1 hj)]
  exact ⟨h.book, this ▸ h.row⟩
theorem Keep.new (w : World) (l : Nat → Value) : Keep (w.alloc (.cells (bookC 0 nilS) tBook)) w.heap.size 0 l nilS :=
  ⟨Blk.new w tBook _, ⟨rfl, .inl ⟨rfl, rfl⟩⟩⟩

end Go.Proofs.YtadmoheohmbieaaGreatDoor

/- Apart over a list of rows none of which lies in another's memory, in whatever order they were made. -/
namespace Go.Proofs.YtadmoheohmbieaaGreatDoor
open Go.RowKit

/-- Rows of limbs in blocks from lo on and below hi, no two in one. -/
structure RowsIn (w : World) (lo : Nat) (vs : List Value) (hi : Nat) : Prop where
  le : lo ≤ hi
  row : ∀ j, j < vs.length → ∃ n X, n ≤ 1073741824 ∧ w.ownsRow lo tLimb 1 (vs.getD j nilS) n X ∧ ∀ g, (vs.getD j nilS).ownBlock = some g → g < hi
  apart : ∀ j k, j < k → k < vs.length → ∀ g, (vs.getD j nilS).ownBlock = some g → (vs.getD k nilS).ownBlock ≠ some g
theorem RowsIn.nil (w : World) (lo : Nat) : RowsIn w lo [] lo := ⟨Nat.le_refl _, fun j hj => by simp at hj, fun j k _ hk => by simp at hk⟩
theorem RowsIn.below {w w' : World} {lo hi : Nat} {vs : List Value} (h : RowsIn w lo vs hi) (hb : Below w.heap.size w w') : RowsIn w' lo vs hi :=
  ⟨h.le, fun j hj => by obtain ⟨n, X, a1, a2, a3⟩ := h.row j hj; exact ⟨n, X, a1, own_below a2 hb, a3⟩, h.apart⟩
theorem RowsIn.up {w : World} {lo hi hi' : Nat} {vs : List Value} (h : RowsIn w lo vs hi) (hh : hi ≤ hi') : RowsIn w lo vs hi' :=
  ⟨Nat.le_trans h.le hh, fun j hj => by obtain ⟨n, X, a1, a2, a3⟩ := h.row j hj; exact ⟨n, X, a1, a2, fun g hg => Nat.lt_of_lt_of_le (a3 g hg) hh⟩, h.apart⟩
theorem RowsIn.snoc {w : World} {lo hi hi' n : Nat} {vs : List Value} {v : Value} {X : List Value} (h : RowsIn w lo vs hi) (hn : n ≤ 1073741824) (ho : w.ownsRow hi tLimb 1 v n X) (hg : ∀ g, v.ownBlock = some g → g < hi') (hh : hi ≤ hi') : RowsIn w lo (vs ++ [v]) hi' := by
  refine ⟨Nat.le_trans h.le hh, fun j hj => ?_, fun j k hjk hk g hgj => ?_⟩
  · rw [List.length_append, List.length_singleton] at hj
    rcases (by omega : j < vs.length ∨ j = vs.length) with h1 | h1
    · obtain ⟨m, Y, a1, a2, a3⟩ := h.row j h1
      rw [show (vs ++ [v]).getD j nilS = vs.getD j nilS by simp [List.getD_eq_getElem?_getD, List.getElem?_append_left h1]]
      exact ⟨m, Y, a1, a2, fun g hg' => Nat.lt_of_lt_of_le (a3 g hg') hh⟩
    · subst h1
      rw [show (vs ++ [v]).getD vs.length nilS = v by simp [List.getD_eq_getElem?_getD]]
      exact ⟨n, X, hn, RowsUp.snoc.own_base ho h.le, hg⟩
  · rw [List.length_append, List.length_singleton] at hk
    have hj : j < vs.length := by omega
    rw [show (vs ++ [v]).getD j nilS = vs.getD j nilS by simp [List.getD_eq_getElem?_getD, List.getElem?_append_left hj]] at hgj
    rcases (by omega : k < vs.length ∨ k = vs.length) with h1 | h1
    · rw [show (vs ++ [v]).getD k nilS = vs.getD k nilS by simp [List.getD_eq_getElem?_getD, List.getElem?_append_left h1]]
      exact h.apart j k hjk h1 g hgj
    · subst h1
      rw [show (vs ++ [v]).getD vs.length nilS = v by simp [List.getD_eq_getElem?_getD]]
      intro hv
      obtain ⟨m, Y, a1, a2, a3⟩ := h.row j hj
      have := a3 g hgj
      have := (ho.lt g hv).1
      omega
/-- Two more at once: of one call, which share no memory. -/
theorem RowsIn.snoc2 {w : World} {lo hi hi' n1 n2 : Nat} {vs : List Value} {v1 v2 : Value} {X1 X2 : List Value} (h : RowsIn w lo vs hi) (hn1 : n1 ≤ 1073741824) (hn2 : n2 ≤ 1073741824) (h1 : w.ownsRow hi tLimb 1 v1 n1 X1) (h2 : w.ownsRow hi tLimb 1 v2 n2 X2)
    (g1 : ∀ g, v1.ownBlock = some g → g < hi') (g2 : ∀ g, v2.ownBlock = some g → g < hi') (hh : hi ≤ hi') (hne : ∀ g, v1.ownBlock = some g → v2.ownBlock ≠ some g) : RowsIn w lo (vs ++ [v1, v2]) hi' := by
  have a := h.snoc hn1 h1 g1 hh
  refine ⟨a.le, fun j hj => ?_, fun j k hjk hk g hgj => ?_⟩
  · rw [List.length_append] at hj
    simp at hj
    rcases (by omega : j < vs.length + 1 ∨ j = vs.length + 1) with hl | hl
    · obtain ⟨m, Y, b1, b2, b3⟩ := a.row j (by simp; omega)
      have e : (vs ++ [v1, v2]).getD j nilS = (vs ++ [v1]).getD j nilS := by
        rw [show vs ++ [v1, v2] = (vs ++ [v1]) ++ [v2] by simp]
        simp only [List.getD_eq_getElem?_getD]
        rw [List.getElem?_append_left (by simp; omega)]
      rw [e]; exact ⟨m, Y, b1, b2, b3⟩
    · subst hl
      rw [show (vs ++ [v1, v2]).getD (vs.length + 1) nilS = v2 by simp [List.getD_eq_getElem?_getD]]
      exact ⟨n2, X2, hn2, RowsUp.snoc.own_base h2 h.le, g2⟩
  · rw [List.length_append] at hk
    simp at hk
    have hj : j < vs.length + 1 := by omega
    have e : ∀ i, i < vs.length + 1 → (vs ++ [v1, v2]).getD i nilS = (vs ++ [v1]).getD i nilS := fun i hi => by
      rw [show vs ++ [v1, v2] = (vs ++ [v1]) ++ [v2] by simp]
      simp only [List.getD_eq_getElem?_getD]
      rw [List.getElem?_append_left (by simp; omega)]
    rw [e j hj] at hgj
    rcases (by omega : k < vs.length + 1 ∨ k = vs.length + 1) with hl | hl
    · rw [e k hl]; exact a.apart j k hjk (by simp; omega) g hgj
    · subst hl
      rw [show (vs ++ [v1, v2]).getD (vs.length + 1) nilS = v2 by simp [List.getD_eq_getElem?_getD]]
      intro hv
      rcases (by omega : j < vs.length ∨ j = vs.length) with h3 | h3
      · rw [show (vs ++ [v1]).getD j nilS = vs.getD j nilS by simp [List.getD_eq_getElem?_getD, List.getElem?_append_left h3]] at hgj
        obtain ⟨m, Y, b1, b2, b3⟩ := h.row j h3
        have := b3 g hgj
        have := (h2.lt g hv).1
        omega
      · subst h3
        rw [show (vs ++ [v1]).getD vs.length nilS = v1 by simp [List.getD_eq_getElem?_getD]] at hgj
        exact hne g hgj hv

theorem apart_in (b B0 : Nat) (vs : List Value) (lims : Value) (w0 w : World) (hne : vs ≠ []) (hlen : vs.length ≤ 1000) (hk : Keep w b vs.length (fun j => vs.getD j nilS) lims) (hr : RowsIn w B0 vs b) (hl : Below B0 w0 w) :
    Calls Tryz.prog 23 #[.pointer (some ⟨b, 0, none⟩)] w fun e w' => e = .returned (.bool true) ∧ Below B0 w0 w' := by
  have hpos : 0 < vs.length := List.length_pos_iff.2 hne
  have hrow := hk.row
  rcases hrow.2 with ⟨-, h2⟩ | ⟨g0, cap, cur, h1, h2, h3, h4, h5, h6, h7⟩
  · omega
  · subst h1
    have hn : ∀ j, j < vs.length → ∃ X, w.ownsRow B0 tLimb 1 (vs.getD j nilS) (lenOf (vs.getD j nilS)) X ∧ lenOf (vs.getD j nilS) ≤ 1073741824 := fun j hj => by
      obtain ⟨n, X, a1, a2, a3⟩ := hr.row j hj
      obtain ⟨A, c, hv⟩ := own_form (by omega) a2
      have : lenOf (vs.getD j nilS) = n := by rw [hv]; rfl
      rw [this]; exact ⟨X, a2, a1⟩
    let X : Nat → List Value := fun j => if h : j < vs.length then Classical.choose (hn j h) else []
    have hX : ∀ j, j < vs.length → w.ownsRow B0 tLimb 1 (vs.getD j nilS) (lenOf (vs.getD j nilS)) (X j) := fun j hj => by
      show w.ownsRow B0 tLimb 1 (vs.getD j nilS) (lenOf (vs.getD j nilS)) (if h : j < vs.length then Classical.choose (hn j h) else [])
      rw [dif_pos hj]; exact (Classical.choose_spec (hn j hj)).1
    have hcells : ∀ j, cur[j]? = if j < vs.length * 3 then (heldCells (fun j => vs.getD j nilS) vs.length)[j]? else cur[j]? := fun j => by
      split
      · rename_i h
        rw [← h7, List.getElem?_take, if_pos h]; simp
      · rfl
    refine apart_true b g0 cap vs.length B0 (fun j => vs.getD j nilS) (fun j => lenOf (vs.getD j nilS)) X w0 w ⟨hr.le, by omega, hlen, fun j hj => (Classical.choose_spec (hn j hj)).2, fun j hj => ?_, fun j k hj hk hjk => ?_⟩ ⟨hk.book, ⟨cur, h3, fun j hj => ?_⟩, hX, hl⟩
    · obtain ⟨n, X, a1, a2, a3⟩ := hr.row j hj
      exact a3
    · intro g hg hg2
      rcases Nat.lt_or_ge j k with h | h
      · exact hr.apart j k h hk g hg hg2
      · exact hr.apart k j (by omega) hj g hg2 hg
    · obtain ⟨a1, a2, a3⟩ := heldCells_at (fun j => vs.getD j nilS) vs.length j hj
      rw [hcells, if_pos (by omega), hcells (j * 3 + 1), if_pos (by omega), hcells (j * 3 + 2), if_pos (by omega)]
      exact ⟨a1, a2, a3⟩
end Go.Proofs.YtadmoheohmbieaaGreatDoor

/- Variables of fractions in the laws' walks; what a law may cost; rows of a Book. -/
namespace Go.Proofs.YtadmoheohmbieaaGreatDoor
open Go.RowKit

/-- A variable that holds a fraction of the call's own: its block, its limbs from lo on and below hi. -/
structure FVar (w : World) (g : Nat) (n d : Int) (A : Option Addr) (c : Nat) (B : Option Addr) (e lo hi : Nat) : Prop where
  quad : Quad w g (.bool (decide (n < 0))) (.slice A (natL n.natAbs).length c) (.bool (decide (d < 0))) (.slice B (natL d.natAbs).length e)
  own : FracOwn w lo (.agg #[.bool (decide (n < 0)), .slice A (natL n.natAbs).length c, .bool (decide (d < 0)), .slice B (natL d.natAbs).length e]) n d
  top1 : ∀ x, (Value.slice A (natL n.natAbs).length c).ownBlock = some x → x < hi
  top2 : ∀ x, (Value.slice B (natL d.natAbs).length e).ownBlock = some x → x < hi
theorem FracOwn.below {w w' : World} {lo : Nat} {v : Value} {n d : Int} (h : FracOwn w lo v n d) (hb : Below w.heap.size w w') : FracOwn w' lo v n d := by
  obtain ⟨A, c, B, e, h1, h2, h3, h4⟩ := h.form
  exact ⟨A, c, B, e, h1, h2.below hb, h3.below hb, h4⟩
theorem FVar.below {w w' : World} {g c e lo hi : Nat} {n d : Int} {A B : Option Addr} (h : FVar w g n d A c B e lo hi) (hb : Below w.heap.size w w') : FVar w' g n d A c B e lo hi := ⟨h.quad.below hb, h.own.below hb, h.top1, h.top2⟩
theorem FracOwn.rows {w : World} {lo c e : Nat} {n d : Int} {A B : Option Addr} (h : FracOwn w lo (.agg #[.bool (decide (n < 0)), .slice A (natL n.natAbs).length c, .bool (decide (d < 0)), .slice B (natL d.natAbs).length e]) n d) :
    (∃ X, w.ownsRow lo tLimb 1 (.slice A (natL n.natAbs).length c) (natL n.natAbs).length X) ∧ (∃ X, w.ownsRow lo tLimb 1 (.slice B (natL d.natAbs).length e) (natL d.natAbs).length X) ∧
    ∀ g, (Value.slice A (natL n.natAbs).length c).ownBlock = some g → (Value.slice B (natL d.natAbs).length e).ownBlock ≠ some g := by
  obtain ⟨A', c', B', e', h1, h2, h3, h4⟩ := h.form
  simp only [Value.agg.injEq, Array.mk.injEq, List.cons.injEq, Value.slice.injEq, and_true, true_and] at h1
  obtain ⟨⟨rfl, rfl⟩, rfl, rfl⟩ := h1
  obtain ⟨A1, c1, p1, p2, p3, p4⟩ := h2.form
  obtain ⟨A2, c2, q1, q2, q3, q4⟩ := h3.form
  simp only [Value.agg.injEq, Array.mk.injEq, List.cons.injEq, Value.slice.injEq, and_true, true_and] at p1 q1
  obtain ⟨rfl, rfl⟩ := p1
  obtain ⟨rfl, rfl⟩ := q1
  exact ⟨⟨_, p4⟩, ⟨_, q4⟩, h4⟩
theorem FVar.new {w : World} {c e lo : Nat} {n d : Int} {A B : Option Addr} (h : FracOwn w lo (.agg #[.bool (decide (n < 0)), .slice A (natL n.natAbs).length c, .bool (decide (d < 0)), .slice B (natL d.natAbs).length e]) n d) :
    FVar (w.alloc (.cells #[.bool (decide (n < 0)), .slice A (natL n.natAbs).length c, .bool (decide (d < 0)), .slice B (natL d.natAbs).length e] 30)) w.heap.size n d A c B e lo w.heap.size := by
  obtain ⟨⟨X, r1⟩, ⟨Y, r2⟩, -⟩ := h.rows
  exact ⟨Quad.new w _ _ _ _, h.below ((Below.refl _ _).alloc (Nat.le_refl _) _), fun x hx => (r1.lt x hx).2, fun x hx => (r2.lt x hx).2⟩
theorem FVar.at_ {w : World} {g c e lo hi : Nat} {n d : Int} {A B : Option Addr} (h : FVar w g n d A c B e lo hi) : FracAt w (.agg #[.bool (decide (n < 0)), .slice A (natL n.natAbs).length c, .bool (decide (d < 0)), .slice B (natL d.natAbs).length e]) n d := h.own.at_
theorem FV.at_ {w : World} {g c e : Nat} {n d : Int} {A B : Option Addr} (h : FV w g n d A c B e) : FracAt w (.agg #[.bool (decide (n < 0)), .slice A (natL n.natAbs).length c, .bool (decide (d < 0)), .slice B (natL d.natAbs).length e]) n d := ⟨_, _, _, _, rfl, h.num, h.den⟩
theorem FV.new {w : World} {c e : Nat} {n d : Int} {A B : Option Addr} (h : Raw w A c (natL n.natAbs)) (g : Raw w B e (natL d.natAbs)) :
    FV (w.alloc (.cells #[.bool (decide (n < 0)), .slice A (natL n.natAbs).length c, .bool (decide (d < 0)), .slice B (natL d.natAbs).length e] 30)) w.heap.size n d A c B e := ⟨Quad.new w _ _ _ _, h.alloc _, g.alloc _⟩
theorem RowsIn.frac {w : World} {lo0 lo hi g c e : Nat} {n d : Int} {A B : Option Addr} {vs : List Value} (h : RowsIn w lo0 vs lo) (v : FVar w g n d A c B e lo hi) (hn : lz n ≤ 1073741824) (hd : lz d ≤ 1073741824) (hh : lo ≤ hi) :
    RowsIn w lo0 (vs ++ [.slice A (natL n.natAbs).length c, .slice B (natL d.natAbs).length e]) hi := by
  obtain ⟨⟨X, r1⟩, ⟨Y, r2⟩, h4⟩ := v.own.rows
  exact h.snoc2 hn hd r1 r2 v.top1 v.top2 hh h4
/-- A list of sizes, in a block of its own. -/
structure SliceOf (ns : List Nat) (u : Value) (V : World) : Prop where
  form : ∃ g t, u = .slice (some ⟨g, 0, none⟩) ns.length ns.length ∧ Blk V g t (cellsI ns).toArray
theorem SliceOf.kept {ns : List Nat} {u : Value} {V V' : World} {B : Nat} (h : SliceOf ns u V) (k : KeptV B [] V V') : SliceOf ns u V' := by
  obtain ⟨g, t, h1, h2⟩ := h.form
  exact ⟨g, t, h1, k.blk h2 (by simp)⟩
theorem SliceOf.new (ns : List Nat) (t : TypeId) (V : World) (vs : Array Value) (h : vs = (cellsI ns).toArray) : SliceOf ns (.slice (some ⟨V.heap.size, 0, none⟩) ns.length ns.length) (V.alloc (.cells vs t)) := by
  subst h
  exact ⟨_, _, rfl, Blk.new _ _ _⟩
def costN (a b : Nat) : Nat := min a 1048576 * min b 1048576 / 16 * 1024
theorem costLow_N (a b : Nat) : costLow a b = ((costN a b : Nat) : Int) := by
  unfold costLow costN
  generalize min a 1048576 = p
  generalize min b 1048576 = q
  rw [Int.natCast_mul, Int.natCast_ediv, Int.natCast_mul]
  rfl
theorem costN_le (a b : Nat) : costN a b ≤ 70368744177664 := by
  have : min a 1048576 * min b 1048576 ≤ 1048576 * 1048576 := Nat.mul_le_mul (Nat.min_le_right _ _) (Nat.min_le_right _ _)
  unfold costN
  omega
end Go.Proofs.YtadmoheohmbieaaGreatDoor
