/- Several texts in one: Vars. -/
import Derived.Test.YtbdliabfdplohaaDoorBt31
import Derived.Test.YtbdliabfdplohaaDoorBt36
set_option maxRecDepth 100000
set_option maxHeartbeats 8000000
/- Variables that hold numbers of the call's own, for the books of the laws. -/
namespace Go.Proofs.YtbdliabfdplohaaDoor
open Go.RowKit

theorem int_agg {b b' : Bool} {A A' : Option Addr} {n n' c c' : Nat} (h : Value.agg #[.bool b, .slice A n c] = .agg #[.bool b', .slice A' n' c']) : (Value.slice A n c) = .slice A' n' c' := by
  simp only [Value.agg.injEq] at h
  have := congrArg (fun a : Array Value => a[1]?) h
  simpa using this
structure VarOwn (w : World) (g : Nat) (b : Bool) (A : Option Addr) (n c lo hi : Nat) (r : Int) : Prop where
  pair : Pair w g 24 (.bool b) (.slice A n c)
  own : IntOwn w lo (.agg #[.bool b, .slice A n c]) r
  top : ∀ x, (Value.slice A n c).ownBlock = some x → x < hi
theorem VarOwn.below {w w' : World} {g n c lo hi : Nat} {b : Bool} {A : Option Addr} {r : Int} (h : VarOwn w g b A n c lo hi r) (hb : Below w.heap.size w w') : VarOwn w' g b A n c lo hi r := ⟨h.pair.below hb, h.own.below hb, h.top⟩
theorem VarOwn.of {w w' : World} {g n c lo : Nat} {b : Bool} {A : Option Addr} {r : Int} (h : IntOwn w lo (.agg #[.bool b, .slice A n c]) r) (hb : Below w.heap.size w w') (p : Pair w' g 24 (.bool b) (.slice A n c)) : VarOwn w' g b A n c lo w.heap.size r := by
  refine ⟨p, h.below hb, fun x hx => ?_⟩
  obtain ⟨A', c', h1, h2, h3, h4⟩ := h.form
  rw [int_agg h1] at hx
  exact (h4.lt x hx).2
theorem VarOwn.row {w : World} {g n c lo hi : Nat} {b : Bool} {A : Option Addr} {r : Int} (h : VarOwn w g b A n c lo hi r) (hn : n ≤ 1073741824) : ∃ k X, k ≤ 1073741824 ∧ w.ownsRow lo tLimb 1 (.slice A n c) k X := by
  obtain ⟨A', c', h1, h2, h3, h4⟩ := h.own.form
  have e := int_agg h1
  rw [e]
  injection e with e1 e2 e3
  exact ⟨_, _, by omega, h4⟩
structure VarAt (w : World) (g : Nat) (b : Bool) (A : Option Addr) (n c : Nat) (r : Int) : Prop where
  pair : Pair w g 24 (.bool b) (.slice A n c)
  at_ : IntAt w (.agg #[.bool b, .slice A n c]) r
theorem VarAt.below {w w' : World} {g n c : Nat} {b : Bool} {A : Option Addr} {r : Int} (h : VarAt w g b A n c r) (hb : Below w.heap.size w w') : VarAt w' g b A n c r := ⟨h.pair.below hb, h.at_.below hb⟩
end Go.Proofs.YtbdliabfdplohaaDoor
