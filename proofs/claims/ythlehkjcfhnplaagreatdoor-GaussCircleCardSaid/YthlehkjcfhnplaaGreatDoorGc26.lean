/- Several texts in one: Grow, GrowW, Look, Apart. -/
import Derived.Test.YthlehkjcfhnplaaGreatDoorGc25
import Derived.BigQuiet
set_option maxRecDepth 100000
set_option maxHeartbeats 8000000
/- growLimb: 70 marks more are put behind each list of a Book. -/
namespace Go.Proofs.YthlehkjcfhnplaaGreatDoor
open Go.RowKit

structure Grown (w0 w : World) (b g0 cap m B0 : Nat) (l long : Nat → Value) (n : Nat → Nat) (i : Nat) : Prop where
  shelf : Shelf w0 w b g0 cap m B0 l long n (fun j => List.replicate (n j) (markU j))
  longs : ∀ j, j < i → j < m → w.ownsRow B0 tLimb 1 (long j) (n j + 70) (List.replicate (n j + 70) (markU j)) ∧ ∀ g, (long j).ownBlock = some g → (l j).ownBlock = some g ∨ (g0 < g ∧ ∀ j', j' < m → ∀ x, (l j').ownBlock = some x → x < g)
  rest : ∀ j, i ≤ j → long j = nilS
structure Growing (w0 w : World) (b g0 cap m B0 : Nat) (l long : Nat → Value) (n : Nat → Nat) (i Nh k : Nat) (v : Value) : Prop where
  grown : Grown w0 w b g0 cap m B0 l long n i
  copy : Blk w Nh tHeld #[l i, nilS, .int .i64 ((i : Int) + 1)]
  row : w.ownsRow B0 tLimb 1 v (n i + k) (List.replicate (n i + k) (markU i))
  place : (∃ A c, l i = .slice A (n i) c ∧ v = .slice A (n i + k) c) ∨ ∃ g, v.ownBlock = some g ∧ Nh < g
  under : ∀ j, j < i → j < m → ∀ g, (long j).ownBlock = some g → g < Nh
  old : ∀ j, j < m → ∀ g, (l j).ownBlock = some g → g < Nh
section
variable {w0 w w' : World} {b g0 cap m B0 : Nat} {l long : Nat → Value} {n : Nat → Nat} {i Nh k : Nat} {v v' : Value}
theorem Grown.below (h : Grown w0 w b g0 cap m B0 l long n i) (p : Plain b g0 m B0 l n) (hb : Below w.heap.size w w') : Grown w0 w' b g0 cap m B0 l long n i :=
  ⟨h.shelf.below p hb, fun j hj hjm => ⟨own_below (h.longs j hj hjm).1 hb, (h.longs j hj hjm).2⟩, h.rest⟩
theorem Growing.below (h : Growing w0 w b g0 cap m B0 l long n i Nh k v) (p : Plain b g0 m B0 l n) (hb : Below w.heap.size w w') : Growing w0 w' b g0 cap m B0 l long n i Nh k v :=
  ⟨h.grown.below p hb, h.copy.below hb h.copy.lt, own_below h.row hb, h.place, h.under, h.old⟩
theorem Blk.kept {g : Nat} {t : TypeId} {cs : Array Value} (h : Blk w g t cs) {row : Option Nat} (hg : w.grownBy w' row) (hn : some g ≠ row) : Blk w' g t cs := (hg.block g h.lt hn).trans h
theorem Growing.step (h : Growing w0 w b g0 cap m B0 l long n i Nh k v) (p : Plain b g0 m B0 l n) (hi : i < m) (hNh : g0 < Nh) (ho : w'.ownsRow B0 tLimb 1 v' (n i + k + 1) (List.replicate (n i + k) (markU i) ++ [markU i])) (hg : Grew w v (n i + k) v' w') :
    Growing w0 w' b g0 cap m B0 l long n i Nh (k + 1) v' := by
  have hrow : w'.ownsRow B0 tLimb 1 v' (n i + (k + 1)) (List.replicate (n i + (k + 1)) (markU i)) := by
    rw [← List.replicate_succ'] at ho
    exact ho
  have hgb := p.hg
  have hBb := p.hb
  have hb0 := h.grown.shelf.book.lt
  rcases hg with ⟨g, c, rfl, rfl, hgr⟩ | ⟨hat, hgr⟩
  · -- in place
    have hBg : B0 ≤ g := (h.row.lt g rfl).1
    rcases h.place with ⟨A, c', hl, hv⟩ | ⟨g', hv, hlt⟩
    · injection hv with a1 a2 a3
      subst a1 a3
      have hgu := p.under i hi g (by rw [hl]; rfl)
      have hgo := h.old i hi g (by rw [hl]; rfl)
      refine ⟨⟨⟨h.grown.shelf.book.kept hgr (fun e => by injection e with e; exact hgu.1 e.symm), h.grown.shelf.arr.kept hgr (fun e => by injection e with e; exact hgu.2 e.symm), fun j hj => ?_, h.grown.shelf.low.grown hgr (by omega) (fun x hx => by injection hx with hx; omega)⟩, fun j hj hjm => ⟨?_, (h.grown.longs j hj hjm).2⟩, h.grown.rest⟩, h.copy.kept hgr (fun e => by injection e with e; omega), hrow, .inl ⟨_, c, hl, rfl⟩, h.under, h.old⟩
      · by_cases e : j = i
        · subst e
          have h1 := own_cut hrow (k := n j) (by omega)
          rw [hl]
          rwa [List.take_replicate, Nat.min_eq_left (by omega)] at h1
        · refine (h.grown.shelf.rows j hj).kept hgr ?_
          rcases hv : (l j).ownBlock with _ | x
          · exact .inl rfl
          · refine .inr fun e2 => ?_
            exact p.apart i j hi hj (Ne.symm e) g (by rw [hl]; rfl) (hv.trans e2)
      · refine (h.grown.longs j hj hjm).1.kept hgr ?_
        rcases hv : (long j).ownBlock with _ | x
        · exact .inl rfl
        · refine .inr fun e2 => ?_
          injection e2 with e2
          subst e2
          rcases (h.grown.longs j hj hjm).2 _ hv with h2 | h2
          · exact p.apart i j hi hjm (by omega) _ (by rw [hl]; rfl) h2
          · exact absurd (h2.2 i hi _ (by rw [hl]; rfl)) (Nat.lt_irrefl _)
    · injection hv with hv
      have hv : g = g' := hv
      subst hv
      have hne : ∀ x : Nat, x ≤ Nh → some x ≠ some g := fun x hx e => by injection e with e; omega
      refine ⟨⟨⟨h.grown.shelf.book.kept hgr (hne b (by omega)), h.grown.shelf.arr.kept hgr (hne g0 (by omega)), fun j hj => ?_, h.grown.shelf.low.grown hgr (by omega) (fun x hx => by injection hx with hx; omega)⟩, fun j hj hjm => ⟨?_, (h.grown.longs j hj hjm).2⟩, h.grown.rest⟩, h.copy.kept hgr (hne Nh (Nat.le_refl _)), hrow, .inr ⟨g, rfl, hlt⟩, h.under, h.old⟩
      · refine (h.grown.shelf.rows j hj).kept hgr ?_
        rcases hv : (l j).ownBlock with _ | x
        · exact .inl rfl
        · refine .inr fun e2 => ?_
          have := h.old j hj x hv
          injection e2 with e2
          omega
      · refine (h.grown.longs j hj hjm).1.kept hgr ?_
        rcases hv : (long j).ownBlock with _ | x
        · exact .inl rfl
        · refine .inr fun e2 => ?_
          have := h.under j hj hjm x hv
          injection e2 with e2
          omega
  · -- moved
    have hkeep : ∀ {e : TypeId} {v : Value} {k : Nat} {xs : List Value}, w.ownsRow B0 e 1 v k xs → w'.ownsRow B0 e 1 v k xs := fun h1 => h1.kept hgr (by
      rename_i v _ _
      rcases hv : v.ownBlock with _ | x
      · exact .inl rfl
      · exact .inr (by simp))
    refine ⟨⟨⟨h.grown.shelf.book.kept hgr (by simp), h.grown.shelf.arr.kept hgr (by simp), fun j hj => hkeep (h.grown.shelf.rows j hj), h.grown.shelf.low.grown hgr (by omega) (fun x hx => by cases hx)⟩, fun j hj hjm => ⟨hkeep (h.grown.longs j hj hjm).1, (h.grown.longs j hj hjm).2⟩, h.grown.rest⟩, h.copy.kept hgr (by simp), hrow, .inr ⟨_, hat, h.copy.lt⟩, h.under, h.old⟩
theorem Growing.done (h : Growing w0 w b g0 cap m B0 l long n i Nh 70 v) (p : Plain b g0 m B0 l n) (hi : i < m) (hNh : g0 < Nh) :
    Grown w0 (w.setCell ⟨g0, i * 3 + 1, none⟩ v) b g0 cap m B0 l (updV long i v) n (i + 1) := by
  have far : ∀ {u : Value} {k : Nat} {xs : List Value}, w.ownsRow B0 tLimb 1 u k xs → (∀ g, u.ownBlock = some g → g ≠ g0) → (w.setCell ⟨g0, i * 3 + 1, none⟩ v).ownsRow B0 tLimb 1 u k xs := fun h1 h2 =>
    ownsRow_setCell_other h1 (fun e => h2 g0 e rfl) v
  have hplace : ∀ g, v.ownBlock = some g → (l i).ownBlock = some g ∨ (g0 < g ∧ ∀ j', j' < m → ∀ x, (l j').ownBlock = some x → x < g) := fun g hv => by
    rcases h.place with ⟨A, c, hl, rfl⟩ | ⟨g', hv', hlt⟩
    · left; rw [hl]; cases A <;> exact hv
    · rw [hv] at hv'; injection hv' with e; right; exact ⟨by omega, fun j' hj' x hx => by have := h.old j' hj' x hx; omega⟩
  refine ⟨h.grown.shelf.more p hi v, fun j hj hjm => ?_, fun j hj => by rw [updV_ne _ _ (by omega)]; exact h.grown.rest j (by omega)⟩
  rcases (by omega : j < i ∨ j = i) with hj | rfl
  · rw [updV_ne _ _ (by omega)]
    obtain ⟨h1, h2⟩ := h.grown.longs j hj hjm
    refine ⟨far h1 fun g hg' => (h2 g hg').elim (fun e => (p.under j hjm g e).2) (fun e => by omega), h2⟩
  · rw [updV_same]
    exact ⟨far h.row fun g hg' => (hplace g hg').elim (fun e => (p.under j hi g e).2) (fun e => by omega), hplace⟩
end
/- growLimb: the walk. -/

/- lookLimb: all lists of a Book bear their marks. -/

/- Apart: lists of limbs that share no memory pass. (Written by wip/book/gennil.py.) -/

end Go.Proofs.YthlehkjcfhnplaaGreatDoor
