/- Apart over a list of rows that lie one behind the other. -/
import Derived.Test.YtpcdiijmhllejaaGreatDoorApart
namespace Go.Proofs.YtpcdiijmhllejaaGreatDoor
open Go.RowKit

/-- Rows of limbs, each in blocks of its own: from lo on, below hi. -/
def RowsUp (w : World) : Nat → List Value → Nat → Prop
  | lo, [], hi => lo ≤ hi
  | lo, v :: vs, hi => ∃ n X mid, n ≤ 1073741824 ∧ w.ownsRow lo tLimb 1 v n X ∧ (∀ g, v.ownBlock = some g → g < mid) ∧ lo ≤ mid ∧ RowsUp w mid vs hi
theorem RowsUp.below {w w' : World} (hb : Below w.heap.size w w') : ∀ {lo : Nat} {vs : List Value} {hi : Nat}, RowsUp w lo vs hi → RowsUp w' lo vs hi
  | _, [], _, h => h
  | _, _ :: _, _, ⟨n, X, mid, h1, h2, h3, h4, h5⟩ => ⟨n, X, mid, h1, own_below h2 hb, h3, h4, RowsUp.below hb h5⟩
theorem RowsUp.le {w : World} : ∀ {lo : Nat} {vs : List Value} {hi : Nat}, RowsUp w lo vs hi → lo ≤ hi
  | _, [], _, h => h
  | _, _ :: _, _, ⟨_, _, _, _, _, _, h4, h5⟩ => Nat.le_trans h4 (RowsUp.le h5)
theorem RowsUp.snoc {w : World} {v : Value} {n : Nat} {X : List Value} {hi hi' : Nat} (hn : n ≤ 1073741824) (ho : w.ownsRow hi tLimb 1 v n X) (hg : ∀ g, v.ownBlock = some g → g < hi') (hh : hi ≤ hi') : ∀ {lo : Nat} {vs : List Value}, RowsUp w lo vs hi → RowsUp w lo (vs ++ [v]) hi'
  | _, [], h => ⟨n, X, hi', hn, own_base ho h, hg, Nat.le_trans h hh, Nat.le_refl _⟩
  | _, _ :: _, ⟨n', X', mid, h1, h2, h3, h4, h5⟩ => ⟨n', X', mid, h1, h2, h3, h4, RowsUp.snoc hn ho hg hh h5⟩
where
  own_base {w : World} {b b' : Nat} {e : TypeId} {size n : Nat} {v : Value} {xs : List Value} (h : w.ownsRow b e size v n xs) (hb : b' ≤ b) : w.ownsRow b' e size v n xs := by
    refine ⟨h.1, ?_⟩
    rcases h.2 with h8 | ⟨g, cap, cur, k1, k2, k3⟩
    · exact .inl h8
    · exact .inr ⟨g, cap, cur, k1, Nat.le_trans hb k2, k3⟩
theorem RowsUp.up {w : World} {hi hi' : Nat} (hh : hi ≤ hi') : ∀ {lo : Nat} {vs : List Value}, RowsUp w lo vs hi → RowsUp w lo vs hi'
  | _, [], h => Nat.le_trans h hh
  | _, _ :: _, ⟨n', X', mid, h1, h2, h3, h4, h5⟩ => ⟨n', X', mid, h1, h2, h3, h4, RowsUp.up hh h5⟩
theorem RowsUp.row {w : World} : ∀ {lo : Nat} {vs : List Value} {hi : Nat}, RowsUp w lo vs hi → ∀ (j : Nat), j < vs.length → ∃ n X, n ≤ 1073741824 ∧ w.ownsRow lo tLimb 1 (vs.getD j nilS) n X ∧ ∀ g, (vs.getD j nilS).ownBlock = some g → g < hi
  | _, [], _, _, j, hj => by simp at hj
  | lo, v :: vs, hi, ⟨n, X, mid, h1, h2, h3, h4, h5⟩, 0, _ => ⟨n, X, h1, h2, fun g hg => Nat.lt_of_lt_of_le (h3 g hg) (RowsUp.le h5)⟩
  | lo, v :: vs, hi, ⟨n, X, mid, h1, h2, h3, h4, h5⟩, j + 1, hj => by
    obtain ⟨n', X', a1, a2, a3⟩ := RowsUp.row h5 j (by simpa using hj)
    exact ⟨n', X', a1, RowsUp.snoc.own_base a2 h4, a3⟩
theorem RowsUp.apart {w : World} : ∀ {lo : Nat} {vs : List Value} {hi : Nat}, RowsUp w lo vs hi → ∀ (j k : Nat), j < k → k < vs.length → ∀ g, (vs.getD j nilS).ownBlock = some g → (vs.getD k nilS).ownBlock ≠ some g
  | _, [], _, _, j, k, _, hk => by simp at hk
  | lo, v :: vs, hi, ⟨n, X, mid, h1, h2, h3, h4, h5⟩, 0, k + 1, _, hk => fun g hg hg2 => by
    obtain ⟨n', X', a1, a2, a3⟩ := RowsUp.row h5 k (by simpa using hk)
    have := (a2.lt g hg2).1
    have := h3 g hg
    omega
  | lo, v :: vs, hi, ⟨n, X, mid, h1, h2, h3, h4, h5⟩, j + 1, k + 1, hjk, hk => RowsUp.apart h5 j k (by omega) (by simpa using hk)

theorem Keep.cong {w : World} {b m : Nat} {l l' : Nat → Value} {lims : Value} (h : Keep w b m l lims) (e : ∀ j, j < m → l j = l' j) : Keep w b m l' lims := by
  have : heldCells l m = heldCells l' m := by
    unfold heldCells
    refine congrArg List.flatten (List.map_congr_left fun j hj => ?_)
    rw [e j (List.mem_range.1 hj)]
  exact ⟨h.book, this ▸ h.row⟩
theorem Keep.new (w : World) (l : Nat → Value) : Keep (w.alloc (.cells (bookC 0 nilS) tBook)) w.heap.size 0 l nilS :=
  ⟨Blk.new w tBook _, ⟨rfl, .inl ⟨rfl, rfl⟩⟩⟩

theorem apart_rows (b B0 : Nat) (vs : List Value) (lims : Value) (w0 w : World) (hne : vs ≠ []) (hlen : vs.length ≤ 1000) (hk : Keep w b vs.length (fun j => vs.getD j nilS) lims) (hr : RowsUp w B0 vs b) (hl : Below B0 w0 w) :
    Calls Tryz.prog 18 #[.pointer (some ⟨b, 0, none⟩)] w fun e w' => e = .returned (.bool true) ∧ Below B0 w0 w' := by
  have hpos : 0 < vs.length := List.length_pos_iff.2 hne
  have hrow := hk.row
  rcases hrow.2 with ⟨-, h2⟩ | ⟨g0, cap, cur, h1, h2, h3, h4, h5, h6, h7⟩
  · omega
  · subst h1
    have hn : ∀ j, j < vs.length → ∃ X, w.ownsRow B0 tLimb 1 (vs.getD j nilS) (lenOf (vs.getD j nilS)) X ∧ lenOf (vs.getD j nilS) ≤ 1073741824 := fun j hj => by
      obtain ⟨n, X, a1, a2, a3⟩ := hr.row j hj
      obtain ⟨A, c, hv⟩ := own_form (by omega) a2
      have : lenOf (vs.getD j nilS) = n := by rw [hv]; rfl
      rw [this]; exact ⟨X, a2, a1⟩
    let X : Nat → List Value := fun j => if h : j < vs.length then Classical.choose (hn j h) else []
    have hX : ∀ j, j < vs.length → w.ownsRow B0 tLimb 1 (vs.getD j nilS) (lenOf (vs.getD j nilS)) (X j) := fun j hj => by
      show w.ownsRow B0 tLimb 1 (vs.getD j nilS) (lenOf (vs.getD j nilS)) (if h : j < vs.length then Classical.choose (hn j h) else [])
      rw [dif_pos hj]; exact (Classical.choose_spec (hn j hj)).1
    have hcells : ∀ j, cur[j]? = if j < vs.length * 3 then (heldCells (fun j => vs.getD j nilS) vs.length)[j]? else cur[j]? := fun j => by
      split
      · rename_i h
        rw [← h7, List.getElem?_take, if_pos h]; simp
      · rfl
    refine apart_true b g0 cap vs.length B0 (fun j => vs.getD j nilS) (fun j => lenOf (vs.getD j nilS)) X w0 w ⟨hr.le, by omega, hlen, fun j hj => (Classical.choose_spec (hn j hj)).2, fun j hj => ?_, fun j k hj hk hjk => ?_⟩ ⟨hk.book, ⟨cur, h3, fun j hj => ?_⟩, hX, hl⟩
    · obtain ⟨n, X, a1, a2, a3⟩ := hr.row j hj
      exact a3
    · intro g hg hg2
      rcases Nat.lt_or_ge j k with h | h
      · exact hr.apart j k h hk g hg hg2
      · exact hr.apart k j (by omega) hj g hg2 hg
    · obtain ⟨a1, a2, a3⟩ := heldCells_at (fun j => vs.getD j nilS) vs.length j hj
      rw [hcells, if_pos (by omega), hcells (j * 3 + 1), if_pos (by omega), hcells (j * 3 + 2), if_pos (by omega)]
      exact ⟨a1, a2, a3⟩
end Go.Proofs.YtpcdiijmhllejaaGreatDoor
