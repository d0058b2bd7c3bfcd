/- Several texts in one: Up, UpIn, Vars. -/
import Derived.Test.YtpcdiijmhllejaaGreatDoorPk14
import Derived.Test.YtpcdiijmhllejaaGreatDoorPk11
/- Apart over a list of rows that lie one behind the other. -/
namespace Go.Proofs.YtpcdiijmhllejaaGreatDoor
open Go.RowKit

/-- Rows of limbs, each in blocks of its own: from lo on, below hi. -/
def RowsUp (w : World) : Nat → List Value → Nat → Prop
  | lo, [], hi => lo ≤ hi
  | lo, v :: vs, hi => ∃ n X mid, n ≤ 1073741824 ∧ w.ownsRow lo tLimb 1 v n X ∧ (∀ g, v.ownBlock = some g → g < mid) ∧ lo ≤ mid ∧ RowsUp w mid vs hi
theorem RowsUp.below {w w' : World} (hb : Below w.heap.size w w') : ∀ {lo : Nat} {vs : List Value} {hi : Nat}, RowsUp w lo vs hi → RowsUp w' lo vs hi
  | _, [], _, h => h
  | _, _ :: _, _, ⟨n, X, mid, h1, h2, h3, h4, h5⟩ => ⟨n, X, mid, h1, own_below h2 hb, h3, h4, RowsUp.below hb h5⟩
theorem RowsUp.le {w : World} : ∀ {lo : Nat} {vs : List Value} {hi : Nat}, RowsUp w lo vs hi → lo ≤ hi
  | _, [], _, h => h
  | _, _ :: _, _, ⟨_, _, _, _, _, _, h4, h5⟩ => Nat.le_trans h4 (RowsUp.le h5)
theorem RowsUp.snoc {w : World} {v : Value} {n : Nat} {X : List Value} {hi hi' : Nat} (hn : n ≤ 1073741824) (ho : w.ownsRow hi tLimb 1 v n X) (hg : ∀ g, v.ownBlock = some g → g < hi') (hh : hi ≤ hi') : ∀ {lo : Nat} {vs : List Value}, RowsUp w lo vs hi → RowsUp w lo (vs ++ [v]) hi'
  | _, [], h => ⟨n, X, hi', hn, own_base ho h, hg, Nat.le_trans h hh, Nat.le_refl _⟩
  | _, _ :: _, ⟨n', X', mid, h1, h2, h3, h4, h5⟩ => ⟨n', X', mid, h1, h2, h3, h4, RowsUp.snoc hn ho hg hh h5⟩
where
  own_base {w : World} {b b' : Nat} {e : TypeId} {size n : Nat} {v : Value} {xs : List Value} (h : w.ownsRow b e size v n xs) (hb : b' ≤ b) : w.ownsRow b' e size v n xs := by
    refine ⟨h.1, ?_⟩
    rcases h.2 with h8 | ⟨g, cap, cur, k1, k2, k3⟩
    · exact .inl h8
    · exact .inr ⟨g, cap, cur, k1, Nat.le_trans hb k2, k3⟩
theorem RowsUp.up {w : World} {hi hi' : Nat} (hh : hi ≤ hi') : ∀ {lo : Nat} {vs : List Value}, RowsUp w lo vs hi → RowsUp w lo vs hi'
  | _, [], h => Nat.le_trans h hh
  | _, _ :: _, ⟨n', X', mid, h1, h2, h3, h4, h5⟩ => ⟨n', X', mid, h1, h2, h3, h4, RowsUp.up hh h5⟩
theorem RowsUp.row {w : World} : ∀ {lo : Nat} {vs : List Value} {hi : Nat}, RowsUp w lo vs hi → ∀ (j : Nat), j < vs.length → ∃ n X, n ≤ 1073741824 ∧ w.ownsRow lo tLimb 1 (vs.getD j nilS) n X ∧ ∀ g, (vs.getD j nilS).ownBlock = some g → g < hi
  | _, [], _, _, j, hj => by simp at hj
  | lo, v :: vs, hi, ⟨n, X, mid, h1, h2, h3, h4, h5⟩, 0, _ => ⟨n, X, h1, h2, fun g hg => Nat.lt_of_lt_of_le (h3 g hg) (RowsUp.le h5)⟩
  | lo, v :: vs, hi, ⟨n, X, mid, h1, h2, h3, h4, h5⟩, j + 1, hj => by
    obtain ⟨n', X', a1, a2, a3⟩ := RowsUp.row h5 j (by simpa using hj)
    exact ⟨n', X', a1, RowsUp.snoc.own_base a2 h4, a3⟩
theorem RowsUp.apart {w : World} : ∀ {lo : Nat} {vs : List Value} {hi : Nat}, RowsUp w lo vs hi → ∀ (j k : Nat), j < k → k < vs.length → ∀ g, (vs.getD j nilS).ownBlock = some g → (vs.getD k nilS).ownBlock ≠ some g
  | _, [], _, _, j, k, _, hk => by simp at hk
  | lo, v :: vs, hi, ⟨n, X, mid, h1, h2, h3, h4, h5⟩, 0, k + 1, _, hk => fun g hg hg2 => by
    obtain ⟨n', X', a1, a2, a3⟩ := RowsUp.row h5 k (by simpa using hk)
    have := (a2.lt g hg2).1
    have := h3 g hg
    omega
  | lo, v :: vs, hi, ⟨n, X, mid, h1, h2, h3, h4, h5⟩, j + 1, k + 1, hjk, hk => RowsUp.apart h5 j k (by omega) (by simpa using hk)

theorem Keep.cong {w : World} {b m : Nat} {l l' : Nat → Value} {lims : Value} (h : Keep w b m l lims) (e : ∀ j, j < m → l j = l' j) : Keep w b m l' lims := by
  have : heldCells l m = heldCells l' m := by
    unfold heldCells
    refine congrArg List.flatten (List.map_congr_left fun j hj => ?_)
    rw [e j (List.mem_range.1 hj)]
  exact ⟨h.book, this ▸ h.row⟩
theorem Keep.new (w : World) (l : Nat → Value) : Keep (w.alloc (.cells (bookC 0 nilS) tBook)) w.heap.size 0 l nilS :=
  ⟨Blk.new w tBook _, ⟨rfl, .inl ⟨rfl, rfl⟩⟩⟩

theorem apart_rows (b B0 : Nat) (vs : List Value) (lims : Value) (w0 w : World) (hne : vs ≠ []) (hlen : vs.length ≤ 1000) (hk : Keep w b vs.length (fun j => vs.getD j nilS) lims) (hr : RowsUp w B0 vs b) (hl : Below B0 w0 w) :
    Calls Tryz.prog 18 #[.pointer (some ⟨b, 0, none⟩)] w fun e w' => e = .returned (.bool true) ∧ Below B0 w0 w' := by
  have hpos : 0 < vs.length := List.length_pos_iff.2 hne
  have hrow := hk.row
  rcases hrow.2 with ⟨-, h2⟩ | ⟨g0, cap, cur, h1, h2, h3, h4, h5, h6, h7⟩
  · omega
  · subst h1
    have hn : ∀ j, j < vs.length → ∃ X, w.ownsRow B0 tLimb 1 (vs.getD j nilS) (lenOf (vs.getD j nilS)) X ∧ lenOf (vs.getD j nilS) ≤ 1073741824 := fun j hj => by
      obtain ⟨n, X, a1, a2, a3⟩ := hr.row j hj
      obtain ⟨A, c, hv⟩ := own_form (by omega) a2
      have : lenOf (vs.getD j nilS) = n := by rw [hv]; rfl
      rw [this]; exact ⟨X, a2, a1⟩
    let X : Nat → List Value := fun j => if h : j < vs.length then Classical.choose (hn j h) else []
    have hX : ∀ j, j < vs.length → w.ownsRow B0 tLimb 1 (vs.getD j nilS) (lenOf (vs.getD j nilS)) (X j) := fun j hj => by
      show w.ownsRow B0 tLimb 1 (vs.getD j nilS) (lenOf (vs.getD j nilS)) (if h : j < vs.length then Classical.choose (hn j h) else [])
      rw [dif_pos hj]; exact (Classical.choose_spec (hn j hj)).1
    have hcells : ∀ j, cur[j]? = if j < vs.length * 3 then (heldCells (fun j => vs.getD j nilS) vs.length)[j]? else cur[j]? := fun j => by
      split
      · rename_i h
        rw [← h7, List.getElem?_take, if_pos h]; simp
      · rfl
    refine apart_true b g0 cap vs.length B0 (fun j => vs.getD j nilS) (fun j => lenOf (vs.getD j nilS)) X w0 w ⟨hr.le, by omega, hlen, fun j hj => (Classical.choose_spec (hn j hj)).2, fun j hj => ?_, fun j k hj hk hjk => ?_⟩ ⟨hk.book, ⟨cur, h3, fun j hj => ?_⟩, hX, hl⟩
    · obtain ⟨n, X, a1, a2, a3⟩ := hr.row j hj
      exact a3
    · intro g hg hg2
      rcases Nat.lt_or_ge j k with h | h
      · exact hr.apart j k h hk g hg hg2
      · exact hr.apart k j (by omega) hj g hg2 hg
    · obtain ⟨a1, a2, a3⟩ := heldCells_at (fun j => vs.getD j nilS) vs.length j hj
      rw [hcells, if_pos (by omega), hcells (j * 3 + 1), if_pos (by omega), hcells (j * 3 + 2), if_pos (by omega)]
      exact ⟨a1, a2, a3⟩
end Go.Proofs.YtpcdiijmhllejaaGreatDoor

/- Apart over a list of rows none of which lies in another's memory, in whatever order they were made. -/
namespace Go.Proofs.YtpcdiijmhllejaaGreatDoor
open Go.RowKit

/-- Rows of limbs in blocks from lo on and below hi, no two in one. -/
structure RowsIn (w : World) (lo : Nat) (vs : List Value) (hi : Nat) : Prop where
  le : lo ≤ hi
  row : ∀ j, j < vs.length → ∃ n X, n ≤ 1073741824 ∧ w.ownsRow lo tLimb 1 (vs.getD j nilS) n X ∧ ∀ g, (vs.getD j nilS).ownBlock = some g → g < hi
  apart : ∀ j k, j < k → k < vs.length → ∀ g, (vs.getD j nilS).ownBlock = some g → (vs.getD k nilS).ownBlock ≠ some g
theorem RowsIn.nil (w : World) (lo : Nat) : RowsIn w lo [] lo := ⟨Nat.le_refl _, fun j hj => by simp at hj, fun j k _ hk => by simp at hk⟩
theorem RowsIn.below {w w' : World} {lo hi : Nat} {vs : List Value} (h : RowsIn w lo vs hi) (hb : Below w.heap.size w w') : RowsIn w' lo vs hi :=
  ⟨h.le, fun j hj => by obtain ⟨n, X, a1, a2, a3⟩ := h.row j hj; exact ⟨n, X, a1, own_below a2 hb, a3⟩, h.apart⟩
theorem RowsIn.up {w : World} {lo hi hi' : Nat} {vs : List Value} (h : RowsIn w lo vs hi) (hh : hi ≤ hi') : RowsIn w lo vs hi' :=
  ⟨Nat.le_trans h.le hh, fun j hj => by obtain ⟨n, X, a1, a2, a3⟩ := h.row j hj; exact ⟨n, X, a1, a2, fun g hg => Nat.lt_of_lt_of_le (a3 g hg) hh⟩, h.apart⟩
theorem RowsIn.snoc {w : World} {lo hi hi' n : Nat} {vs : List Value} {v : Value} {X : List Value} (h : RowsIn w lo vs hi) (hn : n ≤ 1073741824) (ho : w.ownsRow hi tLimb 1 v n X) (hg : ∀ g, v.ownBlock = some g → g < hi') (hh : hi ≤ hi') : RowsIn w lo (vs ++ [v]) hi' := by
  refine ⟨Nat.le_trans h.le hh, fun j hj => ?_, fun j k hjk hk g hgj => ?_⟩
  · rw [List.length_append, List.length_singleton] at hj
    rcases (by omega : j < vs.length ∨ j = vs.length) with h1 | h1
    · obtain ⟨m, Y, a1, a2, a3⟩ := h.row j h1
      rw [show (vs ++ [v]).getD j nilS = vs.getD j nilS by simp [List.getD_eq_getElem?_getD, List.getElem?_append_left h1]]
      exact ⟨m, Y, a1, a2, fun g hg' => Nat.lt_of_lt_of_le (a3 g hg') hh⟩
    · subst h1
      rw [show (vs ++ [v]).getD vs.length nilS = v by simp [List.getD_eq_getElem?_getD]]
      exact ⟨n, X, hn, RowsUp.snoc.own_base ho h.le, hg⟩
  · rw [List.length_append, List.length_singleton] at hk
    have hj : j < vs.length := by omega
    rw [show (vs ++ [v]).getD j nilS = vs.getD j nilS by simp [List.getD_eq_getElem?_getD, List.getElem?_append_left hj]] at hgj
    rcases (by omega : k < vs.length ∨ k = vs.length) with h1 | h1
    · rw [show (vs ++ [v]).getD k nilS = vs.getD k nilS by simp [List.getD_eq_getElem?_getD, List.getElem?_append_left h1]]
      exact h.apart j k hjk h1 g hgj
    · subst h1
      rw [show (vs ++ [v]).getD vs.length nilS = v by simp [List.getD_eq_getElem?_getD]]
      intro hv
      obtain ⟨m, Y, a1, a2, a3⟩ := h.row j hj
      have := a3 g hgj
      have := (ho.lt g hv).1
      omega
/-- Two more at once: of one call, which share no memory. -/
theorem RowsIn.snoc2 {w : World} {lo hi hi' n1 n2 : Nat} {vs : List Value} {v1 v2 : Value} {X1 X2 : List Value} (h : RowsIn w lo vs hi) (hn1 : n1 ≤ 1073741824) (hn2 : n2 ≤ 1073741824) (h1 : w.ownsRow hi tLimb 1 v1 n1 X1) (h2 : w.ownsRow hi tLimb 1 v2 n2 X2)
    (g1 : ∀ g, v1.ownBlock = some g → g < hi') (g2 : ∀ g, v2.ownBlock = some g → g < hi') (hh : hi ≤ hi') (hne : ∀ g, v1.ownBlock = some g → v2.ownBlock ≠ some g) : RowsIn w lo (vs ++ [v1, v2]) hi' := by
  have a := h.snoc hn1 h1 g1 hh
  refine ⟨a.le, fun j hj => ?_, fun j k hjk hk g hgj => ?_⟩
  · rw [List.length_append] at hj
    simp at hj
    rcases (by omega : j < vs.length + 1 ∨ j = vs.length + 1) with hl | hl
    · obtain ⟨m, Y, b1, b2, b3⟩ := a.row j (by simp; omega)
      have e : (vs ++ [v1, v2]).getD j nilS = (vs ++ [v1]).getD j nilS := by
        rw [show vs ++ [v1, v2] = (vs ++ [v1]) ++ [v2] by simp]
        simp only [List.getD_eq_getElem?_getD]
        rw [List.getElem?_append_left (by simp; omega)]
      rw [e]; exact ⟨m, Y, b1, b2, b3⟩
    · subst hl
      rw [show (vs ++ [v1, v2]).getD (vs.length + 1) nilS = v2 by simp [List.getD_eq_getElem?_getD]]
      exact ⟨n2, X2, hn2, RowsUp.snoc.own_base h2 h.le, g2⟩
  · rw [List.length_append] at hk
    simp at hk
    have hj : j < vs.length + 1 := by omega
    have e : ∀ i, i < vs.length + 1 → (vs ++ [v1, v2]).getD i nilS = (vs ++ [v1]).getD i nilS := fun i hi => by
      rw [show vs ++ [v1, v2] = (vs ++ [v1]) ++ [v2] by simp]
      simp only [List.getD_eq_getElem?_getD]
      rw [List.getElem?_append_left (by simp; omega)]
    rw [e j hj] at hgj
    rcases (by omega : k < vs.length + 1 ∨ k = vs.length + 1) with hl | hl
    · rw [e k hl]; exact a.apart j k hjk (by simp; omega) g hgj
    · subst hl
      rw [show (vs ++ [v1, v2]).getD (vs.length + 1) nilS = v2 by simp [List.getD_eq_getElem?_getD]]
      intro hv
      rcases (by omega : j < vs.length ∨ j = vs.length) with h3 | h3
      · rw [show (vs ++ [v1]).getD j nilS = vs.getD j nilS by simp [List.getD_eq_getElem?_getD, List.getElem?_append_left h3]] at hgj
        obtain ⟨m, Y, b1, b2, b3⟩ := h.row j h3
        have := b3 g hgj
        have := (h2.lt g hv).1
        omega
      · subst h3
        rw [show (vs ++ [v1]).getD vs.length nilS = v1 by simp [List.getD_eq_getElem?_getD]] at hgj
        exact hne g hgj hv

theorem apart_in (b B0 : Nat) (vs : List Value) (lims : Value) (w0 w : World) (hne : vs ≠ []) (hlen : vs.length ≤ 1000) (hk : Keep w b vs.length (fun j => vs.getD j nilS) lims) (hr : RowsIn w B0 vs b) (hl : Below B0 w0 w) :
    Calls Tryz.prog 18 #[.pointer (some ⟨b, 0, none⟩)] w fun e w' => e = .returned (.bool true) ∧ Below B0 w0 w' := by
  have hpos : 0 < vs.length := List.length_pos_iff.2 hne
  have hrow := hk.row
  rcases hrow.2 with ⟨-, h2⟩ | ⟨g0, cap, cur, h1, h2, h3, h4, h5, h6, h7⟩
  · omega
  · subst h1
    have hn : ∀ j, j < vs.length → ∃ X, w.ownsRow B0 tLimb 1 (vs.getD j nilS) (lenOf (vs.getD j nilS)) X ∧ lenOf (vs.getD j nilS) ≤ 1073741824 := fun j hj => by
      obtain ⟨n, X, a1, a2, a3⟩ := hr.row j hj
      obtain ⟨A, c, hv⟩ := own_form (by omega) a2
      have : lenOf (vs.getD j nilS) = n := by rw [hv]; rfl
      rw [this]; exact ⟨X, a2, a1⟩
    let X : Nat → List Value := fun j => if h : j < vs.length then Classical.choose (hn j h) else []
    have hX : ∀ j, j < vs.length → w.ownsRow B0 tLimb 1 (vs.getD j nilS) (lenOf (vs.getD j nilS)) (X j) := fun j hj => by
      show w.ownsRow B0 tLimb 1 (vs.getD j nilS) (lenOf (vs.getD j nilS)) (if h : j < vs.length then Classical.choose (hn j h) else [])
      rw [dif_pos hj]; exact (Classical.choose_spec (hn j hj)).1
    have hcells : ∀ j, cur[j]? = if j < vs.length * 3 then (heldCells (fun j => vs.getD j nilS) vs.length)[j]? else cur[j]? := fun j => by
      split
      · rename_i h
        rw [← h7, List.getElem?_take, if_pos h]; simp
      · rfl
    refine apart_true b g0 cap vs.length B0 (fun j => vs.getD j nilS) (fun j => lenOf (vs.getD j nilS)) X w0 w ⟨hr.le, by omega, hlen, fun j hj => (Classical.choose_spec (hn j hj)).2, fun j hj => ?_, fun j k hj hk hjk => ?_⟩ ⟨hk.book, ⟨cur, h3, fun j hj => ?_⟩, hX, hl⟩
    · obtain ⟨n, X, a1, a2, a3⟩ := hr.row j hj
      exact a3
    · intro g hg hg2
      rcases Nat.lt_or_ge j k with h | h
      · exact hr.apart j k h hk g hg hg2
      · exact hr.apart k j (by omega) hj g hg2 hg
    · obtain ⟨a1, a2, a3⟩ := heldCells_at (fun j => vs.getD j nilS) vs.length j hj
      rw [hcells, if_pos (by omega), hcells (j * 3 + 1), if_pos (by omega), hcells (j * 3 + 2), if_pos (by omega)]
      exact ⟨a1, a2, a3⟩
end Go.Proofs.YtpcdiijmhllejaaGreatDoor

/- Variables that hold numbers of the call's own, for the books of the laws. -/
namespace Go.Proofs.YtpcdiijmhllejaaGreatDoor
open Go.RowKit

theorem int_agg {b b' : Bool} {A A' : Option Addr} {n n' c c' : Nat} (h : Value.agg #[.bool b, .slice A n c] = .agg #[.bool b', .slice A' n' c']) : (Value.slice A n c) = .slice A' n' c' := by
  simp only [Value.agg.injEq] at h
  have := congrArg (fun a : Array Value => a[1]?) h
  simpa using this
/-- A variable that holds a number of the call's own: its block, its limbs from lo on and below hi. -/
structure VarOwn (w : World) (g : Nat) (b : Bool) (A : Option Addr) (n c lo hi : Nat) (r : Int) : Prop where
  pair : Pair w g 24 (.bool b) (.slice A n c)
  own : IntOwn w lo (.agg #[.bool b, .slice A n c]) r
  top : ∀ x, (Value.slice A n c).ownBlock = some x → x < hi
theorem VarOwn.below {w w' : World} {g n c lo hi : Nat} {b : Bool} {A : Option Addr} {r : Int} (h : VarOwn w g b A n c lo hi r) (hb : Below w.heap.size w w') : VarOwn w' g b A n c lo hi r := ⟨h.pair.below hb, h.own.below hb, h.top⟩
theorem VarOwn.of {w w' : World} {g n c lo : Nat} {b : Bool} {A : Option Addr} {r : Int} (h : IntOwn w lo (.agg #[.bool b, .slice A n c]) r) (hb : Below w.heap.size w w') (p : Pair w' g 24 (.bool b) (.slice A n c)) : VarOwn w' g b A n c lo w.heap.size r := by
  refine ⟨p, h.below hb, fun x hx => ?_⟩
  obtain ⟨A', c', h1, h2, h3, h4⟩ := h.form
  rw [int_agg h1] at hx
  exact (h4.lt x hx).2
theorem VarOwn.row {w : World} {g n c lo hi : Nat} {b : Bool} {A : Option Addr} {r : Int} (h : VarOwn w g b A n c lo hi r) (hn : n ≤ 1073741824) : ∃ k X, k ≤ 1073741824 ∧ w.ownsRow lo tLimb 1 (.slice A n c) k X := by
  obtain ⟨A', c', h1, h2, h3, h4⟩ := h.own.form
  have e := int_agg h1
  rw [e]
  injection e with e1 e2 e3
  exact ⟨_, _, by omega, h4⟩
theorem TwinAt.row_ {w : World} {g lo : Nat} {xs : List Nat} (h : TwinAt w g xs) (hlo : lo ≤ g) (hl : xs.length ≤ 1048576) : w.ownsRow lo tLimb 1 (.slice (some ⟨g, 0, none⟩) xs.length (xs.length + 1)) xs.length (cellsU xs) := by
  refine ⟨by rw [cellsU_length, Nat.mul_one], .inr ⟨g, xs.length + 1, _, rfl, hlo, h.blk, Nat.le_succ _, by unfold maxLen; omega, by simp [cellsU], ?_⟩⟩
  simp [cellsU]
/-- A variable that holds a number, wherever its limbs lie. -/
structure VarAt (w : World) (g : Nat) (b : Bool) (A : Option Addr) (n c : Nat) (r : Int) : Prop where
  pair : Pair w g 24 (.bool b) (.slice A n c)
  at_ : IntAt w (.agg #[.bool b, .slice A n c]) r
theorem VarAt.below {w w' : World} {g n c : Nat} {b : Bool} {A : Option Addr} {r : Int} (h : VarAt w g b A n c r) (hb : Below w.heap.size w w') : VarAt w' g b A n c r := ⟨h.pair.below hb, h.at_.below hb⟩
theorem same_true (v1 v2 : Value) (r : Int) (w : World) (h : IntAt w v1 r) (g : IntAt w v2 r) :
    Calls Tryz.prog 23 #[v1, v2] w fun e w' => e = .returned (.bool true) ∧ Below w.heap.size w w' := by
  obtain ⟨A, c, rfl, h1⟩ := h.form
  obtain ⟨B, d, rfl, g1⟩ := g.form
  have := same_any (decide (r < 0)) (decide (r < 0)) A B c d _ _ w h1 g1
  simpa using this
end Go.Proofs.YtpcdiijmhllejaaGreatDoor
