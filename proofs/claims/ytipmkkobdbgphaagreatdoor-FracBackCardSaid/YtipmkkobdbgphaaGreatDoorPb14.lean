/- Several texts in one: Ints0, ZR, Append, Moves. -/
import Derived.Test.YtipmkkobdbgphaaGreatDoorPb08
import Derived.Test.YtipmkkobdbgphaaGreatDoorPb03
import Derived.Test.YtipmkkobdbgphaaGreatDoorPb12
import Derived.Test.YtipmkkobdbgphaaGreatDoorPb13
import Derived.Test.YtipmkkobdbgphaaGreatDoorPb07
import Derived.Test.YtipmkkobdbgphaaGreatDoorPb10
import Derived.Test.YtipmkkobdbgphaaGreatDoorPb01
set_option maxRecDepth 100000
set_option maxHeartbeats 8000000
/- Signs and order of numbers: plain. -/
namespace Go.Proofs.YtipmkkobdbgphaaGreatDoor

theorem sgn_z (x : Int) : sgnI (decide (x < 0)) (natL x.natAbs) = x.sign := by
  unfold sgnI
  by_cases h0 : (natL x.natAbs).length = 0
  · rw [if_pos h0]
    have := natL_eq_nil.1 (List.eq_nil_of_length_eq_zero h0)
    have : x = 0 := by omega
    subst this; rfl
  · rw [if_neg h0]
    have hn : x ≠ 0 := fun e => h0 (by rw [e]; decide)
    by_cases hl : x < 0
    · rw [if_pos (decide_eq_true hl), Int.sign_eq_neg_one_of_neg hl]
    · rw [if_neg (by simpa using hl), Int.sign_eq_one_of_pos (by omega)]
theorem sign_cases (x : Int) : (x < 0 ∧ x.sign = -1) ∨ (x = 0 ∧ x.sign = 0) ∨ (0 < x ∧ x.sign = 1) := by
  rcases Int.lt_trichotomy x 0 with h | h | h
  · exact .inl ⟨h, Int.sign_eq_neg_one_of_neg h⟩
  · exact .inr (.inl ⟨h, by rw [h]; rfl⟩)
  · exact .inr (.inr ⟨h, Int.sign_eq_one_of_pos h⟩)
theorem sign_lt {x y : Int} (h : x.sign < y.sign) : x < y := by
  have h1 := sign_cases x
  have h2 := sign_cases y
  omega
theorem sign_neg (x : Int) : x.sign = -1 ∧ decide (x < 0) = true ∨ 0 ≤ x.sign ∧ decide (x < 0) = false := by
  rcases sign_cases x with ⟨h, e⟩ | ⟨h, e⟩ | ⟨h, e⟩
  · exact .inl ⟨e, decide_eq_true h⟩
  · exact .inr ⟨by omega, decide_eq_false (by omega)⟩
  · exact .inr ⟨by omega, decide_eq_false (by omega)⟩
theorem cmp_like {x y : Int} (h : x.sign = y.sign) : cmpz x y = if decide (x < 0) = true then cmpv y.natAbs x.natAbs else cmpv x.natAbs y.natAbs := by
  have h1 := sign_cases x
  have h2 := sign_cases y
  unfold cmpz cmpv
  by_cases hx : x < 0
  · rw [show decide (x < 0) = true from decide_eq_true hx, if_pos (rfl : true = true)]
    split <;> (try split) <;> (try split) <;> (try split) <;> omega
  · rw [show decide (x < 0) = false from decide_eq_false hx, if_neg Bool.false_ne_true]
    split <;> (try split) <;> (try split) <;> (try split) <;> omega
/- The references calls over numbers, told by the numbers alone. (Written by wip/exact/genz.py.) -/
open Go.RowKit
/- An append of one cell to a row of the call's own: in place, or to a new block; the elder block then stays. -/
section
variable {P : Program} (w : World)
def Grew (w : World) (v : Value) (n : Nat) (v' : Value) (w' : World) : Prop :=
  (∃ g cap, v = .slice (some ⟨g, 0, none⟩) n cap ∧ v' = .slice (some ⟨g, 0, none⟩) (n + 1) cap ∧ w.grownBy w' (some g)) ∨ (v'.ownBlock = some w.heap.size ∧ w.grownBy w' none)
end
/- An append that does not fit moves the row. -/
section
variable {P : Program} (w : World)
theorem run_append_moves (base : Nat) (t ty e : TypeId) (i : TypeInfo) (z : Value) (bytes : Nat) (ht : P.underlying t = some (.slice e)) (hi : P.info? e = some i) (hz : i.zero = some z)
    (hsize : i.size = 1) (hby : i.bytes = bytes) (hzs : z.cells.size = 1) (g n cap : Nat) (xs : List Value) (hown : w.ownsRow base e 1 (.slice (some ⟨g, 0, none⟩) n cap) n xs)
    (a : Addr) (m c : Nat) (news : List Value) (hlen : news.length = m) (hnews : ∀ j u, news[j]? = some u → w.cell? (a.add j) = some u) (h1 : ∀ u ∈ news, u.oneCell' = true)
    (hroom : ¬ n + m ≤ cap) (h63 : n + m ≤ maxLen) (hbytes : (n + m) * bytes ≤ 140737488355328) (hbase : base ≤ w.heap.size) :
    ∃ v' w', (Builtin.append_ #[t, t] ty #[.slice (some ⟨g, 0, none⟩) n cap, .slice (some a) m c]).run P w = .ok v' w' ∧ w'.ownsRow base e 1 v' (n + m) (xs ++ news) ∧ Below w.heap.size w w' := by
  obtain ⟨v', w', hrun, how, -, -, -⟩ := run_append_own_at (P := P) w base t ty e i z 1 bytes ht hi hz hsize hby hzs (by omega) _ n xs hown a m c news (by omega) hnews h1 h63 hbytes hbase
  refine ⟨v', w', hrun, how, ?_⟩
  have hsmall : n + m ≤ 9223372036854775807 := by simp only [maxLen] at h63; omega
  have holds : ∀ j x, xs[j]? = some x → w.cell? ((⟨g, 0, none⟩ : Addr).add j) = some x := hown.cells (g := g) rfl
  have hr := run_append_grow (P := P) w t ty e i z ht hi hz ⟨g, 0, none⟩ n cap xs (by rw [hsize]; exact hown.1) holds a m c news (by simp [hsize, hlen]) hnews (by omega) (by omega) (by rw [hby]; exact growslice_fits (by omega) hbytes)
  rw [hrun] at hr
  injection hr with e1 e2
  subst e1 e2
  exact (Below.refl _ _).drew.alloc (by simp) _
theorem wp_append_moves {o : Oper} {a : Act} {K : Act → World → Prop} {Q : Exit → Act → World → Prop} (s x : Operand) (t : TypeId)
    (ho : o.op = .call { callee := .builtin .append, args := #[s, x], argTypes := #[t, t] })
    (base : Nat) (e : TypeId) (i : TypeInfo) (z : Value) (bytes : Nat) (ht : P.underlying t = some (.slice e)) (hi : P.info? e = some i) (hz : i.zero = some z)
    (hsize : i.size = 1) (hby : i.bytes = bytes) (hzs : z.cells.size = 1) (g n cap : Nat) (xs : List Value) (hs : a.eval s = .slice (some ⟨g, 0, none⟩) n cap) (hown : w.ownsRow base e 1 (.slice (some ⟨g, 0, none⟩) n cap) n xs)
    (ad : Addr) (m c : Nat) (news : List Value) (hx : a.eval x = .slice (some ad) m c) (hlen : news.length = m) (hnews : ∀ j u, news[j]? = some u → w.cell? (ad.add j) = some u) (h1 : ∀ u ∈ news, u.oneCell' = true)
    (hroom : ¬ n + m ≤ cap) (h63 : n + m ≤ maxLen) (hbytes : (n + m) * bytes ≤ 140737488355328) (hbase : base ≤ w.heap.size)
    (h : ∀ v' w', w'.ownsRow base e 1 v' (n + m) (xs ++ news) → Below w.heap.size w w' → K (a.put o.dst v') w') : o.wp P a w K Q := by
  obtain ⟨v', w', hrun, h2, h3⟩ := run_append_moves (P := P) w base t o.type e i z bytes ht hi hz hsize hby hzs g n cap xs hown ad m c news hlen hnews h1 hroom h63 hbytes hbase
  unfold Oper.wp execOp
  simp only [ho, resolve, invoke, builtin, Sem.run_bind, Sem.run_pure, Result.andThen_ok, List.map_toArray, List.map_cons, List.map_nil, hs, hx, hrun]
  exact h v' w' h2 h3
end
end Go.Proofs.YtipmkkobdbgphaaGreatDoor
