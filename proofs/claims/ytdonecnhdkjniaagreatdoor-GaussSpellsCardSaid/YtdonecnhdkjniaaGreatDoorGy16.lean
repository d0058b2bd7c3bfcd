/- Several texts in one: FLong, FAnswered, CmpW, OfW, WrapI. -/
import Derived.Test.YtdonecnhdkjniaaGreatDoorGy15
set_option maxRecDepth 100000
set_option maxHeartbeats 8000000
namespace Go.Proofs.YtdonecnhdkjniaaGreatDoor
open Go.RowKit

theorem flong_one (b : Bool) (A : Option Addr) (n c : Nat) (hn : n <= 9223372036854775807) (V : World) (g : Nat) (hg : V.heap.size = g) :
  Calls Tryz.prog 223 #[.slice (some ⟨g, 0, none⟩) 1 1] (V.alloc (.cells #[.bool b, .slice A n c] 24)) fun e w' => e = .returned (.bool (decide (2048 < n))) /\ Below (V.alloc (.cells #[.bool b, .slice A n c] 24)).heap.size (V.alloc (.cells #[.bool b, .slice A n c] 24)) w' := by
 have := exact_Long (some ⟨g, 0, none⟩) 1 [(b, A, n, c)] (by simp) (by simp; omega) (V.alloc (.cells #[.bool b, .slice A n c] 24)) (by subst hg; exact (ZL.new1 V 24 2 [.bool b, .slice A n c] rfl).more (by simp))
 simpa using this


theorem Ze.nought (w : World) (base : Nat) : Ze w base (.agg #[.bool false, .slice none 0 0, .bool false, .slice none 0 0]) 0 0 :=
 ⟨none, 0, none, 0, rfl, Zc.nought _ _, Zc.nought _ _, fun g hg => by cases hg⟩
theorem Ze.quad {w : World} {base g : Nat} {v a b c d : Value} {n m : Int} (h : Ze w base v n m) (q : Zw w g a b c d) (x y z u : Value) : Ze ((((w.setCell ⟨g, 0, none⟩ x).setCell ⟨g, 1, none⟩ y).setCell ⟨g, 2, none⟩ z).setCell ⟨g, 3, none⟩ u) base v n m := by
 obtain ⟨A, k, B, e, h1, h2, h3, h4⟩ := h.form
 have one : ∀ {v : Value} {x' : Int}, Zc w base v x' -> Zc ((((w.setCell ⟨g, 0, none⟩ x).setCell ⟨g, 1, none⟩ y).setCell ⟨g, 2, none⟩ z).setCell ⟨g, 3, none⟩ u) base v x' := fun {v x'} hi => by
  obtain ⟨A', c', a1, a2, a3, a4⟩ := hi.form
  have hne := Xf a4 q.blk (by decide)
  refine ⟨A', c', a1, a2, a3, a4.1, ?_⟩
  rcases a4.2 with p | ⟨g', cap, cur, p1, p2, p3, p4⟩
  . exact .inl p
  . refine .inr ⟨g', cap, cur, p1, p2, ?_, p4⟩
    have hg : g' ≠ g := fun e => by
     rw [p1] at hne
     exact hne (by simp [Value.ownBlock, e])
    rw [Below.heap_setCell _ ⟨g, 3, none⟩ u g' hg, Below.heap_setCell _ ⟨g, 2, none⟩ z g' hg, Below.heap_setCell _ ⟨g, 1, none⟩ y g' hg, Below.heap_setCell _ ⟨g, 0, none⟩ x g' hg]
    exact p3
 exact ⟨A, k, B, e, h1, one h2, one h3, h4⟩
theorem Ze.base {w : World} {b b' : Nat} {v : Value} {n d : Int} (h : Ze w b v n d) (hb : b' <= b) : Ze w b' v n d := by
 obtain ⟨A, k, B, e, h1, h2, h3, h4⟩ := h.form
 exact ⟨A, k, B, e, h1, h2.base hb, h3.base hb, h4⟩



end Go.Proofs.YtdonecnhdkjniaaGreatDoor
