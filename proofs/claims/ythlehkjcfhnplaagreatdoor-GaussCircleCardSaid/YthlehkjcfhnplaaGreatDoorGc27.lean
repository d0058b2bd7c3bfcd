/- Several texts in one: Up, UpIn, FVar, FLaw. -/
import Derived.Test.YthlehkjcfhnplaaGreatDoorGc26
import Derived.Test.YthlehkjcfhnplaaGreatDoorGc24
import Derived.Test.YthlehkjcfhnplaaGreatDoorGc25
import Derived.Test.YthlehkjcfhnplaaGreatDoorGc08
import Derived.Test.YthlehkjcfhnplaaGreatDoorGcHd
import Derived.Test.YthlehkjcfhnplaaGreatDoorGc22
import Derived.Test.YthlehkjcfhnplaaGreatDoorGc14
set_option maxRecDepth 100000
set_option maxHeartbeats 8000000
/- Apart over a list of rows that lie one behind the other. -/
namespace Go.Proofs.YthlehkjcfhnplaaGreatDoor
open Go.RowKit

def RowsUp (w : World) : Nat → List Value → Nat → Prop
  | lo, [], hi => lo ≤ hi
  | lo, v :: vs, hi => ∃ n X mid, n ≤ 1073741824 ∧ w.ownsRow lo tLimb 1 v n X ∧ (∀ g, v.ownBlock = some g → g < mid) ∧ lo ≤ mid ∧ RowsUp w mid vs hi
theorem RowsUp.below {w w' : World} (hb : Below w.heap.size w w') : ∀ {lo : Nat} {vs : List Value} {hi : Nat}, RowsUp w lo vs hi → RowsUp w' lo vs hi
  | _, [], _, h => h
  | _, _ :: _, _, ⟨n, X, mid, h1, h2, h3, h4, h5⟩ => ⟨n, X, mid, h1, own_below h2 hb, h3, h4, RowsUp.below hb h5⟩
theorem RowsUp.le {w : World} : ∀ {lo : Nat} {vs : List Value} {hi : Nat}, RowsUp w lo vs hi → lo ≤ hi
  | _, [], _, h => h
  | _, _ :: _, _, ⟨_, _, _, _, _, _, h4, h5⟩ => Nat.le_trans h4 (RowsUp.le h5)
theorem RowsUp.snoc {w : World} {v : Value} {n : Nat} {X : List Value} {hi hi' : Nat} (hn : n ≤ 1073741824) (ho : w.ownsRow hi tLimb 1 v n X) (hg : ∀ g, v.ownBlock = some g → g < hi') (hh : hi ≤ hi') : ∀ {lo : Nat} {vs : List Value}, RowsUp w lo vs hi → RowsUp w lo (vs ++ [v]) hi'
  | _, [], h => ⟨n, X, hi', hn, own_base ho h, hg, Nat.le_trans h hh, Nat.le_refl _⟩
  | _, _ :: _, ⟨n', X', mid, h1, h2, h3, h4, h5⟩ => ⟨n', X', mid, h1, h2, h3, h4, RowsUp.snoc hn ho hg hh h5⟩
where
  own_base {w : World} {b b' : Nat} {e : TypeId} {size n : Nat} {v : Value} {xs : List Value} (h : w.ownsRow b e size v n xs) (hb : b' ≤ b) : w.ownsRow b' e size v n xs := by
    refine ⟨h.1, ?_⟩
    rcases h.2 with h8 | ⟨g, cap, cur, k1, k2, k3⟩
    · exact .inl h8
    · exact .inr ⟨g, cap, cur, k1, Nat.le_trans hb k2, k3⟩
theorem RowsUp.up {w : World} {hi hi' : Nat} (hh : hi ≤ hi') : ∀ {lo : Nat} {vs : List Value}, RowsUp w lo vs hi → RowsUp w lo vs hi'
  | _, [], h => Nat.le_trans h hh
  | _, _ :: _, ⟨n', X', mid, h1, h2, h3, h4, h5⟩ => ⟨n', X', mid, h1, h2, h3, h4, RowsUp.up hh h5⟩
theorem RowsUp.row {w : World} : ∀ {lo : Nat} {vs : List Value} {hi : Nat}, RowsUp w lo vs hi → ∀ (j : Nat), j < vs.length → ∃ n X, n ≤ 1073741824 ∧ w.ownsRow lo tLimb 1 (vs.getD j nilS) n X ∧ ∀ g, (vs.getD j nilS).ownBlock = some g → g < hi
  | _, [], _, _, j, hj => by simp at hj
  | lo, v :: vs, hi, ⟨n, X, mid, h1, h2, h3, h4, h5⟩, 0, _ => ⟨n, X, h1, h2, fun g hg => Nat.lt_of_lt_of_le (h3 g hg) (RowsUp.le h5)⟩
  | lo, v :: vs, hi, ⟨n, X, mid, h1, h2, h3, h4, h5⟩, j + 1, hj => by
    obtain ⟨n', X', a1, a2, a3⟩ := RowsUp.row h5 j (by simpa using hj)
    exact ⟨n', X', a1, RowsUp.snoc.own_base a2 h4, a3⟩
theorem RowsUp.apart {w : World} : ∀ {lo : Nat} {vs : List Value} {hi : Nat}, RowsUp w lo vs hi → ∀ (j k : Nat), j < k → k < vs.length → ∀ g, (vs.getD j nilS).ownBlock = some g → (vs.getD k nilS).ownBlock ≠ some g
  | _, [], _, _, j, k, _, hk => by simp at hk
  | lo, v :: vs, hi, ⟨n, X, mid, h1, h2, h3, h4, h5⟩, 0, k + 1, _, hk => fun g hg hg2 => by
    obtain ⟨n', X', a1, a2, a3⟩ := RowsUp.row h5 k (by simpa using hk)
    have := (a2.lt g hg2).1
    have := h3 g hg
    omega
  | lo, v :: vs, hi, ⟨n, X, mid, h1, h2, h3, h4, h5⟩, j + 1, k + 1, hjk, hk => RowsUp.apart h5 j k (by omega) (by simpa using hk)

theorem Keep.new (w : World) (l : Nat → Value) : Keep (w.alloc (.cells (bookC 0 nilS) tBook)) w.heap.size 0 l nilS :=
  ⟨Blk.new w tBook _, ⟨rfl, .inl ⟨rfl, rfl⟩⟩⟩

/- Apart over a list of rows none of which lies in another's memory, in whatever order they were made. -/

structure RowsIn (w : World) (lo : Nat) (vs : List Value) (hi : Nat) : Prop where
  le : lo ≤ hi
  row : ∀ j, j < vs.length → ∃ n X, n ≤ 1073741824 ∧ w.ownsRow lo tLimb 1 (vs.getD j nilS) n X ∧ ∀ g, (vs.getD j nilS).ownBlock = some g → g < hi
  apart : ∀ j k, j < k → k < vs.length → ∀ g, (vs.getD j nilS).ownBlock = some g → (vs.getD k nilS).ownBlock ≠ some g
theorem RowsIn.below {w w' : World} {lo hi : Nat} {vs : List Value} (h : RowsIn w lo vs hi) (hb : Below w.heap.size w w') : RowsIn w' lo vs hi :=
  ⟨h.le, fun j hj => by obtain ⟨n, X, a1, a2, a3⟩ := h.row j hj; exact ⟨n, X, a1, own_below a2 hb, a3⟩, h.apart⟩
theorem RowsIn.up {w : World} {lo hi hi' : Nat} {vs : List Value} (h : RowsIn w lo vs hi) (hh : hi ≤ hi') : RowsIn w lo vs hi' :=
  ⟨Nat.le_trans h.le hh, fun j hj => by obtain ⟨n, X, a1, a2, a3⟩ := h.row j hj; exact ⟨n, X, a1, a2, fun g hg => Nat.lt_of_lt_of_le (a3 g hg) hh⟩, h.apart⟩
theorem RowsIn.snoc {w : World} {lo hi hi' n : Nat} {vs : List Value} {v : Value} {X : List Value} (h : RowsIn w lo vs hi) (hn : n ≤ 1073741824) (ho : w.ownsRow hi tLimb 1 v n X) (hg : ∀ g, v.ownBlock = some g → g < hi') (hh : hi ≤ hi') : RowsIn w lo (vs ++ [v]) hi' := by
  refine ⟨Nat.le_trans h.le hh, fun j hj => ?_, fun j k hjk hk g hgj => ?_⟩
  · rw [List.length_append, List.length_singleton] at hj
    rcases (by omega : j < vs.length ∨ j = vs.length) with h1 | h1
    · obtain ⟨m, Y, a1, a2, a3⟩ := h.row j h1
      rw [show (vs ++ [v]).getD j nilS = vs.getD j nilS by simp [List.getD_eq_getElem?_getD, List.getElem?_append_left h1]]
      exact ⟨m, Y, a1, a2, fun g hg' => Nat.lt_of_lt_of_le (a3 g hg') hh⟩
    · subst h1
      rw [show (vs ++ [v]).getD vs.length nilS = v by simp [List.getD_eq_getElem?_getD]]
      exact ⟨n, X, hn, RowsUp.snoc.own_base ho h.le, hg⟩
  · rw [List.length_append, List.length_singleton] at hk
    have hj : j < vs.length := by omega
    rw [show (vs ++ [v]).getD j nilS = vs.getD j nilS by simp [List.getD_eq_getElem?_getD, List.getElem?_append_left hj]] at hgj
    rcases (by omega : k < vs.length ∨ k = vs.length) with h1 | h1
    · rw [show (vs ++ [v]).getD k nilS = vs.getD k nilS by simp [List.getD_eq_getElem?_getD, List.getElem?_append_left h1]]
      exact h.apart j k hjk h1 g hgj
    · subst h1
      rw [show (vs ++ [v]).getD vs.length nilS = v by simp [List.getD_eq_getElem?_getD]]
      intro hv
      obtain ⟨m, Y, a1, a2, a3⟩ := h.row j hj
      have := a3 g hgj
      have := (ho.lt g hv).1
      omega
/- Variables of fractions in the laws' walks; what a law may cost; rows of a Book. -/

structure FVar (w : World) (g : Nat) (n d : Int) (A : Option Addr) (c : Nat) (B : Option Addr) (e lo hi : Nat) : Prop where
  quad : Quad w g (.bool (decide (n < 0))) (.slice A (natL n.natAbs).length c) (.bool (decide (d < 0))) (.slice B (natL d.natAbs).length e)
  own : FracOwn w lo (.agg #[.bool (decide (n < 0)), .slice A (natL n.natAbs).length c, .bool (decide (d < 0)), .slice B (natL d.natAbs).length e]) n d
  top1 : ∀ x, (Value.slice A (natL n.natAbs).length c).ownBlock = some x → x < hi
  top2 : ∀ x, (Value.slice B (natL d.natAbs).length e).ownBlock = some x → x < hi
theorem FracOwn.below {w w' : World} {lo : Nat} {v : Value} {n d : Int} (h : FracOwn w lo v n d) (hb : Below w.heap.size w w') : FracOwn w' lo v n d := by
  obtain ⟨A, c, B, e, h1, h2, h3, h4⟩ := h.form
  exact ⟨A, c, B, e, h1, h2.below hb, h3.below hb, h4⟩
theorem FVar.below {w w' : World} {g c e lo hi : Nat} {n d : Int} {A B : Option Addr} (h : FVar w g n d A c B e lo hi) (hb : Below w.heap.size w w') : FVar w' g n d A c B e lo hi := ⟨h.quad.below hb, h.own.below hb, h.top1, h.top2⟩
theorem FracOwn.rows {w : World} {lo c e : Nat} {n d : Int} {A B : Option Addr} (h : FracOwn w lo (.agg #[.bool (decide (n < 0)), .slice A (natL n.natAbs).length c, .bool (decide (d < 0)), .slice B (natL d.natAbs).length e]) n d) :
    (∃ X, w.ownsRow lo tLimb 1 (.slice A (natL n.natAbs).length c) (natL n.natAbs).length X) ∧ (∃ X, w.ownsRow lo tLimb 1 (.slice B (natL d.natAbs).length e) (natL d.natAbs).length X) ∧
    ∀ g, (Value.slice A (natL n.natAbs).length c).ownBlock = some g → (Value.slice B (natL d.natAbs).length e).ownBlock ≠ some g := by
  obtain ⟨A', c', B', e', h1, h2, h3, h4⟩ := h.form
  simp only [Value.agg.injEq, Array.mk.injEq, List.cons.injEq, Value.slice.injEq, and_true, true_and] at h1
  obtain ⟨⟨rfl, rfl⟩, rfl, rfl⟩ := h1
  obtain ⟨A1, c1, p1, p2, p3, p4⟩ := h2.form
  obtain ⟨A2, c2, q1, q2, q3, q4⟩ := h3.form
  simp only [Value.agg.injEq, Array.mk.injEq, List.cons.injEq, Value.slice.injEq, and_true, true_and] at p1 q1
  obtain ⟨rfl, rfl⟩ := p1
  obtain ⟨rfl, rfl⟩ := q1
  exact ⟨⟨_, p4⟩, ⟨_, q4⟩, h4⟩
theorem FVar.new {w : World} {c e lo : Nat} {n d : Int} {A B : Option Addr} (h : FracOwn w lo (.agg #[.bool (decide (n < 0)), .slice A (natL n.natAbs).length c, .bool (decide (d < 0)), .slice B (natL d.natAbs).length e]) n d) :
    FVar (w.alloc (.cells #[.bool (decide (n < 0)), .slice A (natL n.natAbs).length c, .bool (decide (d < 0)), .slice B (natL d.natAbs).length e] 26)) w.heap.size n d A c B e lo w.heap.size := by
  obtain ⟨⟨X, r1⟩, ⟨Y, r2⟩, -⟩ := h.rows
  exact ⟨Quad.new w _ _ _ _, h.below ((Below.refl _ _).alloc (Nat.le_refl _) _), fun x hx => (r1.lt x hx).2, fun x hx => (r2.lt x hx).2⟩
theorem FVar.at_ {w : World} {g c e lo hi : Nat} {n d : Int} {A B : Option Addr} (h : FVar w g n d A c B e lo hi) : FracAt w (.agg #[.bool (decide (n < 0)), .slice A (natL n.natAbs).length c, .bool (decide (d < 0)), .slice B (natL d.natAbs).length e]) n d := h.own.at_
theorem FV.at_ {w : World} {g c e : Nat} {n d : Int} {A B : Option Addr} (h : FV w g n d A c B e) : FracAt w (.agg #[.bool (decide (n < 0)), .slice A (natL n.natAbs).length c, .bool (decide (d < 0)), .slice B (natL d.natAbs).length e]) n d := ⟨_, _, _, _, rfl, h.num, h.den⟩
theorem FV.new {w : World} {c e : Nat} {n d : Int} {A B : Option Addr} (h : Raw w A c (natL n.natAbs)) (g : Raw w B e (natL d.natAbs)) :
    FV (w.alloc (.cells #[.bool (decide (n < 0)), .slice A (natL n.natAbs).length c, .bool (decide (d < 0)), .slice B (natL d.natAbs).length e] 26)) w.heap.size n d A c B e := ⟨Quad.new w _ _ _ _, h.alloc _, g.alloc _⟩
structure SliceOf (ns : List Nat) (u : Value) (V : World) : Prop where
  form : ∃ g t, u = .slice (some ⟨g, 0, none⟩) ns.length ns.length ∧ Blk V g t (cellsI ns).toArray
theorem SliceOf.kept {ns : List Nat} {u : Value} {V V' : World} {B : Nat} (h : SliceOf ns u V) (k : KeptV B [] V V') : SliceOf ns u V' := by
  obtain ⟨g, t, h1, h2⟩ := h.form
  exact ⟨g, t, h1, k.blk h2 (by simp)⟩
theorem SliceOf.new (ns : List Nat) (t : TypeId) (V : World) (vs : Array Value) (h : vs = (cellsI ns).toArray) : SliceOf ns (.slice (some ⟨V.heap.size, 0, none⟩) ns.length ns.length) (V.alloc (.cells vs t)) := by
  subst h
  exact ⟨_, _, rfl, Blk.new _ _ _⟩
def costN (a b : Nat) : Nat := min a 1048576 * min b 1048576 / 16 * 1024
theorem costLow_N (a b : Nat) : costLow a b = ((costN a b : Nat) : Int) := by
  unfold costLow costN
  generalize min a 1048576 = p
  generalize min b 1048576 = q
  rw [Int.natCast_mul, Int.natCast_ediv, Int.natCast_mul]
  rfl
theorem costN_le (a b : Nat) : costN a b ≤ 70368744177664 := by
  have : min a 1048576 * min b 1048576 ≤ 1048576 * 1048576 := Nat.mul_le_mul (Nat.min_le_right _ _) (Nat.min_le_right _ _)
  unfold costN
  omega
/- FracCost, TwinFrac, LeftFrac of the laws; Checks and Sign of the references. (Written by wip/frac/genflaw.py.) -/

theorem frac_size (n1 n2 : Bool) (A B : Option Addr) (c e0 : Nat) (xs ys : List Nat) (hx : xs.length ≤ 1152921504606846975) (hy : ys.length ≤ 1152921504606846975) (w : World) :
    Calls Tryz.prog 43 #[.agg #[.bool n1, .slice A xs.length c, .bool n2, .slice B ys.length e0]] w fun e w' => e = .returned (.int .i64 ((1 + xs.length + (1 + ys.length) : Nat) : Int)) ∧ Below w.heap.size w w' := by
  have D1 := fun V => intSize_any n1 A c xs.length hx V
  have D2 := fun V => intSize_any n2 B e0 ys.length hy V
  obtain ⟨s1, hs1⟩ : ∃ k : Nat, k = 1 + xs.length := ⟨_, rfl⟩
  obtain ⟨s2, hs2⟩ : ∃ k : Nat, k = 1 + ys.length := ⟨_, rfl⟩
  rw [← hs1] at D1 ⊢
  rw [← hs2] at D2 ⊢
  obtain ⟨s3, hs3⟩ : ∃ k : Nat, k = s1 + s2 := ⟨_, rfl⟩
  rw [← hs3]
  have HW := Hd (show IntKind.i64.wrap ((s1 : Int) + (s2 : Int)) = (s3 : Int) from by rw [IntKind.wrap_i64]; omega)
  have H1 := Hd D1
  have H2 := Hd D2
  clear D1 D2 hx hy hs1 hs2 hs3
  have px := Quad.new w (.bool n1) (.slice A xs.length c) (.bool n2) (.slice B ys.length e0)
  have b0 := (Below.refl w.heap.size w).alloc (Nat.le_refl _) (.cells #[.bool n1, .slice A xs.length c, .bool n2, .slice B ys.length e0] 26)
  have PX := Hd px
  have HB := Hd b0
  clear px b0
  go_enter Tryz.func43, Tryz.ntmps43
  go_wp2_with fail
  obtain ⟨W, E⟩ : ∃ W, W = w.alloc (.cells #[.bool n1, .slice A xs.length c, .bool n2, .slice B ys.length e0] 26) := ⟨_, rfl⟩
  rw [← E] at PX HB ⊢
  clear E
  refine wp_region_free [.val (.pointer (some ⟨w.heap.size, 0, none⟩)) [], .val (.agg #[.bool n1, .slice A xs.length c]) [], .val (.int .i64 s1) [], .val (.pointer (some ⟨w.heap.size, 2, none⟩)) [], .val (.agg #[.bool n2, .slice B ys.length e0]) [], .val (.int .i64 s2) [], .val (.int .i64 s3) [], .val (.int .i64 s3) []] W.heap.size W [] blkInt _ mixedOrders2 (Nat.le_refl _) (Below.refl _ _) (KeptV.refl _ _ _) rfl (by kernel_rfl) (by kernel_rfl) (by kernel_rfl) (by kernel_rfl) (by kernel_rfl) (by kernel_rfl) (by kernel_rfl) (by kernel_rfl) rfl (by simp [oldsF]) ?_ ?_ ?_ ?_
  · simp only [StableF]
  · simp only [OldsF]
  · simp (maxSteps := 4000000) [StepsF, DepF, freeAct, fill, pairs]
    repeat' (first | apply And.intro | (intro (u : Value)) | (intro (u : Nat)))
    all_goals
      intro V hV hK
      obtain ⟨-, a_x, b_x, c_x, d_x, -, -, -, -⟩ := (PX.out.below hV).facts
      clear hV hK
      go_simp
      first
      | exact Below.refl _ _
      | exact ⟨HW.out, Below.refl _ _⟩
      | ((with_reducible refine (H1.out V).mono ?_); rintro e w' ⟨rfl, hb⟩; exact ⟨rfl, hb⟩)
      | ((with_reducible refine (H2.out V).mono ?_); rintro e w' ⟨rfl, hb⟩; exact ⟨rfl, hb⟩)
  · simp [EndF, FactsF, freeAct, fill, pairs]
    intro V hV hK _ _ _
    have HB := Hd (belowTo HB.out hV)
    clear hV hK
    go_wp2_with fail
    go_ret
    exact ⟨rfl, HB.out⟩

def fcost (a b : Nat) : Nat := 1 + a + (1 + b) + costN a b
theorem fcost_le {a b : Nat} (ha : a ≤ 1152921504606846975) (hb : b ≤ 1152921504606846975) : fcost a b ≤ 2305913377957871618 := by
  have := costN_le a b
  unfold fcost
  omega

theorem frac_cost (n1 n2 : Bool) (A B : Option Addr) (c e0 : Nat) (xs ys : List Nat) (hx : xs.length ≤ 1152921504606846975) (hy : ys.length ≤ 1152921504606846975) (w : World) (h : Raw w A c xs) (g : Raw w B e0 ys) :
    Calls Tryz.prog 30 #[.agg #[.bool n1, .slice A xs.length c, .bool n2, .slice B ys.length e0]] w fun e w' => e = .returned (.int .i64 (fcost xs.length ys.length : Nat)) ∧ Below w.heap.size w w' := by
  have D1 := fun V => frac_size n1 n2 A B c e0 xs ys hx hy V
  have D2 := fun (V : World) (h : Raw V A c xs) (g : Raw V B e0 ys) => cost_low n1 n2 A B c e0 xs ys V h g
  rw [costLow_N] at D2
  have hc := costN_le xs.length ys.length
  obtain ⟨s1, hs1⟩ : ∃ k : Nat, k = 1 + xs.length + (1 + ys.length) := ⟨_, rfl⟩
  obtain ⟨s2, hs2⟩ : ∃ k : Nat, k = costN xs.length ys.length := ⟨_, rfl⟩
  obtain ⟨s3, hs3⟩ : ∃ k : Nat, k = fcost xs.length ys.length := ⟨_, rfl⟩
  have e3 : s3 = s1 + s2 := by rw [hs3, hs1, hs2]; rfl
  rw [← hs1] at D1
  rw [← hs2] at D2 hc
  rw [← hs3]
  have HW := Hd (show IntKind.i64.wrap ((s1 : Int) + (s2 : Int)) = (s3 : Int) from by rw [IntKind.wrap_i64]; omega)
  have H1 := Hd D1
  have H2 := Hd D2
  clear D1 D2 hx hy hs1 hs2 hs3 e3 hc
  have px := Quad.new w (.bool n1) (.slice A xs.length c) (.bool n2) (.slice B ys.length e0)
  have b0 := (Below.refl w.heap.size w).alloc (Nat.le_refl _) (.cells #[.bool n1, .slice A xs.length c, .bool n2, .slice B ys.length e0] 26)
  have rx := Hd (h.below b0)
  have ry := Hd (g.below b0)
  clear h g
  have PX := Hd px
  have HB := Hd b0
  clear px b0
  go_enter Tryz.func30, Tryz.ntmps30
  go_wp2_with fail
  obtain ⟨W, E⟩ : ∃ W, W = w.alloc (.cells #[.bool n1, .slice A xs.length c, .bool n2, .slice B ys.length e0] 26) := ⟨_, rfl⟩
  rw [← E] at PX HB rx ry ⊢
  clear E
  refine wp_region_free [.val (.agg #[.bool n1, .slice A xs.length c, .bool n2, .slice B ys.length e0]) [], .val (.int .i64 s1) [], .val (.pointer (some ⟨w.heap.size, 0, none⟩)) [], .val (.agg #[.bool n1, .slice A xs.length c]) [], .val (.pointer (some ⟨w.heap.size, 2, none⟩)) [], .val (.agg #[.bool n2, .slice B ys.length e0]) [], .val (.int .i64 s2) [], .val (.int .i64 s3) [], .val (.int .i64 s3) []] W.heap.size W [] blkInt _ mixedOrders2 (Nat.le_refl _) (Below.refl _ _) (KeptV.refl _ _ _) rfl (by kernel_rfl) (by kernel_rfl) (by kernel_rfl) (by kernel_rfl) (by kernel_rfl) (by kernel_rfl) (by kernel_rfl) (by kernel_rfl) rfl (by simp [oldsF]) ?_ ?_ ?_ ?_
  · simp only [StableF]
  · simp only [OldsF]
  · simp (maxSteps := 4000000) [StepsF, DepF, freeAct, fill, pairs]
    repeat' (first | apply And.intro | (intro (u : Value)) | (intro (u : Nat)))
    all_goals
      intro V hV hK
      obtain ⟨-, a_x, b_x, c_x, d_x, -, -, -, -⟩ := (PX.out.below hV).facts
      have r1 := rx.out.below hV
      have r2 := ry.out.below hV
      clear hV hK
      go_simp
      first
      | exact Below.refl _ _
      | exact ⟨HW.out, Below.refl _ _⟩
      | ((with_reducible refine (H1.out V).mono ?_); rintro e w' ⟨rfl, hb⟩; exact ⟨rfl, hb⟩)
      | ((with_reducible refine (H2.out V r1 r2).mono ?_); rintro e w' ⟨rfl, hb⟩; exact ⟨rfl, hb⟩)
  · simp [EndF, FactsF, freeAct, fill, pairs]
    intro V hV hK _ _ _
    have HB := Hd (belowTo HB.out hV)
    clear hV hK
    go_wp2_with fail
    go_ret
    exact ⟨rfl, HB.out⟩

structure TwinI (neg : Bool) (xs : List Nat) (v : Value) (V : World) : Prop where
  form : ∃ g, v = .agg #[.bool neg, .slice (some ⟨g, 0, none⟩) xs.length (xs.length + 1)] ∧ TwinAt V g xs
theorem TwinI.kept {neg : Bool} {xs : List Nat} {v : Value} {V V' : World} {B : Nat} {Ts : List TypeId} (h : TwinI neg xs v V) (k : KeptV B Ts V V') (hT : 114 ∉ Ts) : TwinI neg xs v V' := by
  obtain ⟨g, h1, h2⟩ := h.form
  exact ⟨g, h1, ⟨k.blk h2.blk hT⟩⟩
structure TwinF (n1 n2 : Bool) (xs ys : List Nat) (v : Value) (V : World) : Prop where
  form : ∃ g1 g2, v = .agg #[.bool n1, .slice (some ⟨g1, 0, none⟩) xs.length (xs.length + 1), .bool n2, .slice (some ⟨g2, 0, none⟩) ys.length (ys.length + 1)] ∧ TwinAt V g1 xs ∧ TwinAt V g2 ys
theorem TwinF.kept {n1 n2 : Bool} {xs ys : List Nat} {v : Value} {V V' : World} {B : Nat} {Ts : List TypeId} (h : TwinF n1 n2 xs ys v V) (k : KeptV B Ts V V') (hT : 114 ∉ Ts) : TwinF n1 n2 xs ys v V' := by
  obtain ⟨g1, g2, h1, h2, h3⟩ := h.form
  exact ⟨g1, g2, h1, ⟨k.blk h2.blk hT⟩, ⟨k.blk h3.blk hT⟩⟩
theorem TwinF.cells {n1 n2 : Bool} {xs ys : List Nat} {v : Value} {V : World} (h : TwinF n1 n2 xs ys v V) : CellsN v 4 := by
  obtain ⟨g1, g2, rfl, -⟩ := h.form
  exact ⟨rfl, by simp [Value.cells, Value.oneCell']⟩
theorem TwinF.below {n1 n2 : Bool} {xs ys : List Nat} {v : Value} {V V' : World} (h : TwinF n1 n2 xs ys v V) (k : Below V.heap.size V V') : TwinF n1 n2 xs ys v V' := by
  obtain ⟨g1, g2, h1, h2, h3⟩ := h.form
  exact ⟨g1, g2, h1, h2.below k, h3.below k⟩

theorem beyond_big (A : Option Addr) (c : Nat) (zs : List Nat) (hz : zs.length ≤ 1000) (hm : ∀ z ∈ zs, z ≤ 4611686018427387904) (w : World) (B : Nat) (hr : Reads w B 1 A zs.length (cellsI zs)) :
    Calls Tryz.prog 18 #[.slice A zs.length c] w fun e w' => e = .returned (.bool (decide (1048576 < zs.sum))) ∧ w = w' := by
  have HR := Hd hr
  have HM := Hd hm
  clear hr hm
  go_enter Tryz.func18, Tryz.ntmps18
  go_wp2_with fail
  go_loop [3, 4] (fun n i => ∃ k s : Nat, i = .int .i64 k ∧ n = .int .i64 s ∧ k ≤ zs.length ∧ s = (zs.take k).sum ∧ s ≤ 1048576) (fun _ i => zs.length - (intOf i).toNat)
  case atStart => exact ⟨0, 0, rfl, rfl, Nat.zero_le _, rfl, by omega⟩
  case round =>
    obtain ⟨k, s, rfl, rfl, hk, hs, hle⟩ := hrel
    have HS := Hd hs
    clear hs
    by_cases hlt : k < zs.length
    · obtain ⟨ad, rfl, -, hc⟩ := HR.out.2 (by omega)
      have hcell := hc k _ (cellsI_get hlt)
      have hz1 := HM.out zs[k] (List.getElem_mem hlt)
      have hs2 := sum_take_more zs k hlt
      rw [← HS.out] at hs2
      have HS2 := Hd hs2
      clear hc hs2
      generalize zs[k] = z at *
      by_cases hbig : s + z ≤ 1048576
      · go_wp2_with fail
        go_round
        case rel => exact ⟨k + 1, s + z, by go_num, by go_num, hlt, HS2.out.symm, hbig⟩
        case measure => simp [intOf]; omega
      · have hd : decide (1048576 < zs.sum) = true := by
          have h1 := sum_take_le zs (k + 1)
          rw [HS2.out] at h1
          simp; omega
        have HD := Hd hd
        clear hd
        have hbig2 : 1048576 < (s : Int) + (z : Int) := by omega
        clear hbig
        go_wp2
        go_ret
        exact ⟨by rw [HD.out]; rfl, rfl⟩
    · have hd : decide (1048576 < zs.sum) = false := by
        have h1 := HS.out
        rw [List.take_of_length_le (by omega)] at h1
        simp; omega
      have HD := Hd hd
      clear hd
      go_wp2
      go_ret
      exact ⟨by rw [HD.out]; rfl, rfl⟩
theorem beyond_of2 (ns : List Nat) (b : Bool) (hl : ns.length ≤ 1000) (hm : ∀ z ∈ ns, z ≤ 4611686018427387904) (hb : b = decide (1048576 < ns.sum)) (u : Value) (V : World) (h : SliceOf ns u V) :
    Calls Tryz.prog 18 #[u] V fun e w' => e = .returned (.bool b) ∧ Below V.heap.size V w' := by
  obtain ⟨g, t, rfl, h2⟩ := h.form
  subst hb
  refine (beyond_big (some ⟨g, 0, none⟩) ns.length ns hl hm V V.heap.size ?_).mono ?_
  · refine ⟨by rw [cellsI_length, Nat.mul_one], fun _ => ⟨_, rfl, h2.lt, fun j u hu => ?_⟩⟩
    rw [show (⟨g, 0, none⟩ : Addr).add j = ⟨g, j, none⟩ by unfold Addr.add; split <;> simp_all, h2.cell j, ← hu]
    simp
  · rintro e w' ⟨rfl, rfl⟩
    exact ⟨rfl, Below.refl _ _⟩

end Go.Proofs.YthlehkjcfhnplaaGreatDoor
