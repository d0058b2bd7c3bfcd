/- Several texts in one: Up, UpIn, Vars. -/
import Derived.Test.YtbdliabfdplohaaDoorBw28
import Derived.Test.YtbdliabfdplohaaDoorBw25
set_option maxRecDepth 100000
set_option maxHeartbeats 8000000
/- Apart over a list of rows that lie one behind the other. -/
namespace Go.Proofs.YtbdliabfdplohaaDoor
open Go.RowKit

def RowsUp (w : World) : Nat → List Value → Nat → Prop
  | lo, [], hi => lo ≤ hi
  | lo, v :: vs, hi => ∃ n X mid, n ≤ 1073741824 ∧ w.ownsRow lo tLimb 1 v n X ∧ (∀ g, v.ownBlock = some g → g < mid) ∧ lo ≤ mid ∧ RowsUp w mid vs hi
theorem RowsUp.below {w w' : World} (hb : Below w.heap.size w w') : ∀ {lo : Nat} {vs : List Value} {hi : Nat}, RowsUp w lo vs hi → RowsUp w' lo vs hi
  | _, [], _, h => h
  | _, _ :: _, _, ⟨n, X, mid, h1, h2, h3, h4, h5⟩ => ⟨n, X, mid, h1, own_below h2 hb, h3, h4, RowsUp.below hb h5⟩
theorem RowsUp.le {w : World} : ∀ {lo : Nat} {vs : List Value} {hi : Nat}, RowsUp w lo vs hi → lo ≤ hi
  | _, [], _, h => h
  | _, _ :: _, _, ⟨_, _, _, _, _, _, h4, h5⟩ => Nat.le_trans h4 (RowsUp.le h5)
theorem RowsUp.snoc {w : World} {v : Value} {n : Nat} {X : List Value} {hi hi' : Nat} (hn : n ≤ 1073741824) (ho : w.ownsRow hi tLimb 1 v n X) (hg : ∀ g, v.ownBlock = some g → g < hi') (hh : hi ≤ hi') : ∀ {lo : Nat} {vs : List Value}, RowsUp w lo vs hi → RowsUp w lo (vs ++ [v]) hi'
  | _, [], h => ⟨n, X, hi', hn, own_base ho h, hg, Nat.le_trans h hh, Nat.le_refl _⟩
  | _, _ :: _, ⟨n', X', mid, h1, h2, h3, h4, h5⟩ => ⟨n', X', mid, h1, h2, h3, h4, RowsUp.snoc hn ho hg hh h5⟩
where
  own_base {w : World} {b b' : Nat} {e : TypeId} {size n : Nat} {v : Value} {xs : List Value} (h : w.ownsRow b e size v n xs) (hb : b' ≤ b) : w.ownsRow b' e size v n xs := by
    refine ⟨h.1, ?_⟩
    rcases h.2 with h8 | ⟨g, cap, cur, k1, k2, k3⟩
    · exact .inl h8
    · exact .inr ⟨g, cap, cur, k1, Nat.le_trans hb k2, k3⟩
theorem RowsUp.up {w : World} {hi hi' : Nat} (hh : hi ≤ hi') : ∀ {lo : Nat} {vs : List Value}, RowsUp w lo vs hi → RowsUp w lo vs hi'
  | _, [], h => Nat.le_trans h hh
  | _, _ :: _, ⟨n', X', mid, h1, h2, h3, h4, h5⟩ => ⟨n', X', mid, h1, h2, h3, h4, RowsUp.up hh h5⟩
theorem RowsUp.row {w : World} : ∀ {lo : Nat} {vs : List Value} {hi : Nat}, RowsUp w lo vs hi → ∀ (j : Nat), j < vs.length → ∃ n X, n ≤ 1073741824 ∧ w.ownsRow lo tLimb 1 (vs.getD j nilS) n X ∧ ∀ g, (vs.getD j nilS).ownBlock = some g → g < hi
  | _, [], _, _, j, hj => by simp at hj
  | lo, v :: vs, hi, ⟨n, X, mid, h1, h2, h3, h4, h5⟩, 0, _ => ⟨n, X, h1, h2, fun g hg => Nat.lt_of_lt_of_le (h3 g hg) (RowsUp.le h5)⟩
  | lo, v :: vs, hi, ⟨n, X, mid, h1, h2, h3, h4, h5⟩, j + 1, hj => by
    obtain ⟨n', X', a1, a2, a3⟩ := RowsUp.row h5 j (by simpa using hj)
    exact ⟨n', X', a1, RowsUp.snoc.own_base a2 h4, a3⟩
theorem RowsUp.apart {w : World} : ∀ {lo : Nat} {vs : List Value} {hi : Nat}, RowsUp w lo vs hi → ∀ (j k : Nat), j < k → k < vs.length → ∀ g, (vs.getD j nilS).ownBlock = some g → (vs.getD k nilS).ownBlock ≠ some g
  | _, [], _, _, j, k, _, hk => by simp at hk
  | lo, v :: vs, hi, ⟨n, X, mid, h1, h2, h3, h4, h5⟩, 0, k + 1, _, hk => fun g hg hg2 => by
    obtain ⟨n', X', a1, a2, a3⟩ := RowsUp.row h5 k (by simpa using hk)
    have := (a2.lt g hg2).1
    have := h3 g hg
    omega
  | lo, v :: vs, hi, ⟨n, X, mid, h1, h2, h3, h4, h5⟩, j + 1, k + 1, hjk, hk => RowsUp.apart h5 j k (by omega) (by simpa using hk)

/- Apart over a list of rows none of which lies in another's memory, in whatever order they were made. -/

structure RowsIn (w : World) (lo : Nat) (vs : List Value) (hi : Nat) : Prop where
  le : lo ≤ hi
  row : ∀ j, j < vs.length → ∃ n X, n ≤ 1073741824 ∧ w.ownsRow lo tLimb 1 (vs.getD j nilS) n X ∧ ∀ g, (vs.getD j nilS).ownBlock = some g → g < hi
  apart : ∀ j k, j < k → k < vs.length → ∀ g, (vs.getD j nilS).ownBlock = some g → (vs.getD k nilS).ownBlock ≠ some g
theorem RowsIn.below {w w' : World} {lo hi : Nat} {vs : List Value} (h : RowsIn w lo vs hi) (hb : Below w.heap.size w w') : RowsIn w' lo vs hi :=
  ⟨h.le, fun j hj => by obtain ⟨n, X, a1, a2, a3⟩ := h.row j hj; exact ⟨n, X, a1, own_below a2 hb, a3⟩, h.apart⟩
theorem RowsIn.up {w : World} {lo hi hi' : Nat} {vs : List Value} (h : RowsIn w lo vs hi) (hh : hi ≤ hi') : RowsIn w lo vs hi' :=
  ⟨Nat.le_trans h.le hh, fun j hj => by obtain ⟨n, X, a1, a2, a3⟩ := h.row j hj; exact ⟨n, X, a1, a2, fun g hg => Nat.lt_of_lt_of_le (a3 g hg) hh⟩, h.apart⟩
theorem RowsIn.snoc {w : World} {lo hi hi' n : Nat} {vs : List Value} {v : Value} {X : List Value} (h : RowsIn w lo vs hi) (hn : n ≤ 1073741824) (ho : w.ownsRow hi tLimb 1 v n X) (hg : ∀ g, v.ownBlock = some g → g < hi') (hh : hi ≤ hi') : RowsIn w lo (vs ++ [v]) hi' := by
  refine ⟨Nat.le_trans h.le hh, fun j hj => ?_, fun j k hjk hk g hgj => ?_⟩
  · rw [List.length_append, List.length_singleton] at hj
    rcases (by omega : j < vs.length ∨ j = vs.length) with h1 | h1
    · obtain ⟨m, Y, a1, a2, a3⟩ := h.row j h1
      rw [show (vs ++ [v]).getD j nilS = vs.getD j nilS by simp [List.getD_eq_getElem?_getD, List.getElem?_append_left h1]]
      exact ⟨m, Y, a1, a2, fun g hg' => Nat.lt_of_lt_of_le (a3 g hg') hh⟩
    · subst h1
      rw [show (vs ++ [v]).getD vs.length nilS = v by simp [List.getD_eq_getElem?_getD]]
      exact ⟨n, X, hn, RowsUp.snoc.own_base ho h.le, hg⟩
  · rw [List.length_append, List.length_singleton] at hk
    have hj : j < vs.length := by omega
    rw [show (vs ++ [v]).getD j nilS = vs.getD j nilS by simp [List.getD_eq_getElem?_getD, List.getElem?_append_left hj]] at hgj
    rcases (by omega : k < vs.length ∨ k = vs.length) with h1 | h1
    · rw [show (vs ++ [v]).getD k nilS = vs.getD k nilS by simp [List.getD_eq_getElem?_getD, List.getElem?_append_left h1]]
      exact h.apart j k hjk h1 g hgj
    · subst h1
      rw [show (vs ++ [v]).getD vs.length nilS = v by simp [List.getD_eq_getElem?_getD]]
      intro hv
      obtain ⟨m, Y, a1, a2, a3⟩ := h.row j hj
      have := a3 g hgj
      have := (ho.lt g hv).1
      omega
/- Variables that hold numbers of the call's own, for the books of the laws. -/

theorem int_agg {b b' : Bool} {A A' : Option Addr} {n n' c c' : Nat} (h : Value.agg #[.bool b, .slice A n c] = .agg #[.bool b', .slice A' n' c']) : (Value.slice A n c) = .slice A' n' c' := by
  simp only [Value.agg.injEq] at h
  have := congrArg (fun a : Array Value => a[1]?) h
  simpa using this
structure VarOwn (w : World) (g : Nat) (b : Bool) (A : Option Addr) (n c lo hi : Nat) (r : Int) : Prop where
  pair : Pair w g 24 (.bool b) (.slice A n c)
  own : IntOwn w lo (.agg #[.bool b, .slice A n c]) r
  top : ∀ x, (Value.slice A n c).ownBlock = some x → x < hi
theorem VarOwn.below {w w' : World} {g n c lo hi : Nat} {b : Bool} {A : Option Addr} {r : Int} (h : VarOwn w g b A n c lo hi r) (hb : Below w.heap.size w w') : VarOwn w' g b A n c lo hi r := ⟨h.pair.below hb, h.own.below hb, h.top⟩
theorem VarOwn.of {w w' : World} {g n c lo : Nat} {b : Bool} {A : Option Addr} {r : Int} (h : IntOwn w lo (.agg #[.bool b, .slice A n c]) r) (hb : Below w.heap.size w w') (p : Pair w' g 24 (.bool b) (.slice A n c)) : VarOwn w' g b A n c lo w.heap.size r := by
  refine ⟨p, h.below hb, fun x hx => ?_⟩
  obtain ⟨A', c', h1, h2, h3, h4⟩ := h.form
  rw [int_agg h1] at hx
  exact (h4.lt x hx).2
theorem VarOwn.row {w : World} {g n c lo hi : Nat} {b : Bool} {A : Option Addr} {r : Int} (h : VarOwn w g b A n c lo hi r) (hn : n ≤ 1073741824) : ∃ k X, k ≤ 1073741824 ∧ w.ownsRow lo tLimb 1 (.slice A n c) k X := by
  obtain ⟨A', c', h1, h2, h3, h4⟩ := h.own.form
  have e := int_agg h1
  rw [e]
  injection e with e1 e2 e3
  exact ⟨_, _, by omega, h4⟩
structure VarAt (w : World) (g : Nat) (b : Bool) (A : Option Addr) (n c : Nat) (r : Int) : Prop where
  pair : Pair w g 24 (.bool b) (.slice A n c)
  at_ : IntAt w (.agg #[.bool b, .slice A n c]) r
theorem VarAt.below {w w' : World} {g n c : Nat} {b : Bool} {A : Option Addr} {r : Int} (h : VarAt w g b A n c r) (hb : Below w.heap.size w w') : VarAt w' g b A n c r := ⟨h.pair.below hb, h.at_.below hb⟩
end Go.Proofs.YtbdliabfdplohaaDoor
