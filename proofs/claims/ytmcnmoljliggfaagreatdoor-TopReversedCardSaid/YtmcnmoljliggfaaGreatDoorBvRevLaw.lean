/- Rays through a bench, element by element, and back; plain. -/
import Derived.Test.YtmcnmoljliggfaaGreatDoorBvMore
namespace Go.Proofs.YtmcnmoljliggfaaGreatDoor
open Go.RowKit

def traceR : List El → Rat × Rat → List (Rat × Rat)
  | [], _ => []
  | e :: l, r => rayM e.mat r :: traceR l (rayM e.mat r)
/-- The ray behind so many elements. -/
def rayAt : List El → Rat × Rat → Nat → Rat × Rat
  | _, r, 0 => r
  | [], r, _ => r
  | e :: l, r, i + 1 => rayAt l (rayM e.mat r) i
theorem rayAt_zero (l : List El) (r : Rat × Rat) : rayAt l r 0 = r := by cases l <;> rfl
theorem traceR_length : ∀ (l : List El) (r : Rat × Rat), (traceR l r).length = l.length
  | [], _ => rfl
  | e :: l, r => by rw [traceR, List.length_cons, List.length_cons, traceR_length l]
theorem traceR_at : ∀ (l : List El) (r : Rat × Rat) (i : Nat), i < l.length → (traceR l r)[i]? = some (rayAt l r (i + 1))
  | [], _, i, h => by simp at h
  | e :: l, r, 0, _ => by rw [traceR, rayAt]; cases l <;> rfl
  | e :: l, r, i + 1, h => by
    rw [traceR, rayAt, List.getElem?_cons_succ]
    exact traceR_at l _ i (by simpa using h)
theorem traceR_take (l : List El) (r : Rat × Rat) (i : Nat) (h : i < l.length) : (traceR l r).take (i + 1) = (traceR l r).take i ++ [rayAt l r (i + 1)] := by
  have hi : i < (traceR l r).length := by rw [traceR_length]; exact h
  rw [List.take_succ_eq_append_getElem hi]
  have h1 := traceR_at l r i h
  rw [List.getElem?_eq_getElem hi] at h1
  rw [Option.some.inj h1]
theorem rayAt_next : ∀ (l : List El) (r : Rat × Rat) (i : Nat) (h : i < l.length), rayAt l r (i + 1) = rayM l[i].mat (rayAt l r i)
  | [], _, i, h => by simp at h
  | e :: l, r, 0, _ => by rw [rayAt]; cases l <;> rfl
  | e :: l, r, i + 1, h => by
    rw [rayAt, rayAt_next l _ i (by simpa using h)]
    rfl
/-- Turned round. -/
def turnR (r : Rat × Rat) : Rat × Rat := (r.1, -r.2)
theorem El.back (e : El) (r : Rat × Rat) : rayM e.mat (turnR (rayM e.mat r)) = turnR r := by
  unfold El.mat turnR rayM
  split <;> ext <;> dsimp only <;> grind
theorem rayAt_app : ∀ (l k : List El) (r : Rat × Rat) (i : Nat), rayAt (l ++ k) r (l.length + i) = rayAt k (rayAt l r l.length) i
  | [], k, r, i => by
    rw [List.nil_append, List.length_nil, Nat.zero_add]
    cases k <;> rfl
  | e :: l, k, r, i => by
    rw [List.cons_append, List.length_cons, show l.length + 1 + i = (l.length + i) + 1 by omega, rayAt, rayAt, rayAt_app l k]
theorem rayAt_pre : ∀ (l k : List El) (r : Rat × Rat) (i : Nat), i ≤ l.length → rayAt (l ++ k) r i = rayAt l r i
  | l, k, r, 0, _ => by cases l <;> cases k <;> rfl
  | [], _, _, i + 1, h => by simp at h
  | e :: l, k, r, i + 1, h => by
    rw [List.cons_append, rayAt, rayAt, rayAt_pre l k _ i (by simpa using h)]
/-- The reversed bench leads the turned ray back. -/
theorem rayAt_back : ∀ (l : List El) (r : Rat × Rat) (i : Nat), i ≤ l.length → rayAt l.reverse (turnR (rayAt l r l.length)) i = turnR (rayAt l r (l.length - i))
  | [], r, i, h => by
    obtain rfl : i = 0 := by simpa using h
    rfl
  | e :: l, r, i, h => by
    rw [List.length_cons] at h ⊢
    rw [List.reverse_cons, show rayAt (e :: l) r (l.length + 1) = rayAt l (rayM e.mat r) l.length from rfl]
    rcases Nat.lt_or_ge i (l.length + 1) with h1 | h1
    · rw [rayAt_pre _ _ _ _ (by rw [List.length_reverse]; omega), rayAt_back l _ i (by omega), show l.length + 1 - i = (l.length - i) + 1 by omega]
      rfl
    · obtain rfl : i = l.length + 1 := by omega
      have h2 := rayAt_app l.reverse [e] (turnR (rayAt l (rayM e.mat r) l.length)) 1
      rw [List.length_reverse] at h2
      rw [h2, rayAt_back l (rayM e.mat r) l.length (Nat.le_refl _), Nat.sub_self, Nat.sub_self, rayAt_zero, rayAt_zero]
      exact e.back r
/-- All numbers of rays. -/
def flatR (l : List (Rat × Rat)) : List (Int × Int) := l.flatMap numsR
theorem flatR_app (l k : List (Rat × Rat)) : flatR (l ++ k) = flatR l ++ flatR k := by
  unfold flatR
  rw [List.flatMap_append]
theorem flatR_length (m : List (Rat × Rat)) : (flatR m).length = 2 * m.length := by
  induction m with
  | nil => rfl
  | cons q m ih =>
    rw [show flatR (q :: m) = numsR q ++ flatR m from rfl, List.length_append, ih]
    show 2 + 2 * m.length = 2 * (m.length + 1)
    omega
theorem flat_fine {l : List (Rat × Rat)} : longZ (flatR l) = false ↔ ∀ q ∈ l, FineR q := by
  constructor
  · intro h q hq
    refine fineR_of (fine_long fun z hz => long_fine h z ?_)
    unfold flatR
    rw [List.mem_flatMap]
    exact ⟨q, hq, hz⟩
  · intro h
    refine fine_long fun z hz => ?_
    unfold flatR at hz
    rw [List.mem_flatMap] at hz
    obtain ⟨q, hq, hz⟩ := hz
    exact long_fine (h q hq).long z hz
theorem FineR.turn {q : Rat × Rat} (h : FineR q) : FineR (turnR q) :=
  ⟨h.y, FineQ.of (by show lz (-q.2).num ≤ 2048; rw [Rat.neg_num, lz_neg]; exact h.u.num) (by show lz ((-q.2).den : Int) ≤ 2048; rw [Rat.neg_den]; exact h.u.den)⟩
/-- A ray that may be, over one denominator. -/
theorem FineR.rb {q : Rat × Rat} (h : FineR q) : ∃ D, RB q D 4096 := by
  have i1 := Is.of q.1
  have i2 := Is.of q.2
  have h1 := h.y.num
  have h2 := h.y.den
  have h3 := h.u.num
  have h4 := h.u.den
  unfold Fit at h1 h2 h3 h4
  have p1 := i1.pos
  have p2 := i2.pos
  have z1 : lz (q.1.den : Int) ≤ 2048 := h2
  have z2 : lz (q.2.den : Int) ≤ 2048 := h4
  have z3 : lz q.1.num ≤ 2048 := h1
  have z4 : lz q.2.num ≤ 2048 := h3
  have n1 := rat_ne (show (q.1.den : Int) ≠ 0 by omega)
  have n2 := rat_ne (show (q.2.den : Int) ≠ 0 by omega)
  refine ⟨(q.1.den : Int) * (q.2.den : Int), Int.mul_ne_zero (by omega) (by omega), Nat.le_trans (lz_mul _ _) (by omega), ⟨q.1.num * q.2.den, ?_, Nat.le_trans (lz_mul _ _) (by omega)⟩, ⟨q.2.num * q.1.den, ?_, Nat.le_trans (lz_mul _ _) (by omega)⟩⟩
  · have e := i1.eq
    rw [Rat.divInt_eq_div] at e
    rw [Rat.intCast_mul, Rat.intCast_mul]
    generalize ((q.1.den : Int) : Rat) = a at *
    generalize ((q.2.den : Int) : Rat) = b at *
    generalize (q.1.num : Rat) = c at *
    generalize q.1 = d at *
    grind
  · have e := i2.eq
    rw [Rat.divInt_eq_div] at e
    rw [Rat.intCast_mul, Rat.intCast_mul]
    generalize ((q.1.den : Int) : Rat) = a at *
    generalize ((q.2.den : Int) : Rat) = b at *
    generalize (q.2.num : Rat) = c at *
    generalize q.2 = d at *
    grind
/-- The rays' sizes. -/
theorem rayAt_bound : ∀ (l : List (El × Nat)) (r : Rat × Rat) (D : Int) (h : Nat), (∀ x ∈ l, ∃ E, MB x.1.mat E x.2) → RB r D h → ∀ i, ∃ E, RB (rayAt (l.map Prod.fst) r i) E (h + (l.map fun x => x.2 + 1).sum)
  | [], r, D, h, _, hr, i => ⟨D, by cases i <;> exact hr⟩
  | x :: l, r, D, h, hl, hr, 0 => ⟨D, ⟨hr.ne, Nat.le_trans hr.den (by omega), hr.y.mono (by omega), hr.u.mono (by omega)⟩⟩
  | x :: l, r, D, h, hl, hr, i + 1 => by
    obtain ⟨E, hx⟩ := hl x (List.mem_cons_self ..)
    obtain ⟨F, hf⟩ := rayAt_bound l (rayM x.1.mat r) (E * D) (x.2 + h + 1) (fun y hy => hl y (List.mem_cons_of_mem _ hy)) (RB.gone hx hr) i
    refine ⟨F, ?_⟩
    rw [List.map_cons, rayAt, List.map_cons, List.sum_cons]
    exact ⟨hf.ne, Nat.le_trans hf.den (by omega), hf.y.mono (by omega), hf.u.mono (by omega)⟩
theorem bench_rays {l : List ERaw} {w : World} (hi : ∀ x ∈ l, x.In w) (hm : ∀ x ∈ l, x.may = true) {r : Rat × Rat} (hr : FineR r) (i : Nat) : Sz (rayAt (l.map ERaw.el) r i).1 (4096 + sumL l) ∧ Sz (rayAt (l.map ERaw.el) r i).2 (4096 + sumL l) := by
  obtain ⟨D, hD⟩ := hr.rb
  obtain ⟨E, h⟩ := rayAt_bound (l.map fun x => (x.el, x.lens + 1)) r D 4096 (fun y hy => by
    obtain ⟨x, hx, rfl⟩ := List.mem_map.1 hy
    exact ERaw.bound (hi x hx) (hm x hx)) hD i
  rw [List.map_map, List.map_map] at h
  exact h.sz
end Go.Proofs.YtmcnmoljliggfaaGreatDoor
