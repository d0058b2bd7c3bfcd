/- Several texts in one: Answer, Append, Book. -/
import Derived.Test.YtadmoheohmbieaaGreatDoorPk10
import Derived.Test.YtadmoheohmbieaaGreatDoorPk01
/- told, Add, Sub, Mul of package whole and of the references. (Written by wip/exact/gentold.py.) -/
namespace Go.Proofs.YtadmoheohmbieaaGreatDoor
open Go.RowKit

theorem toldV_fits {z : Int} (h : (natL z.natAbs).length ≤ 2048) : toldV z = z := by unfold toldV; rw [if_pos h]
theorem toldE_fits {z : Int} (h : (natL z.natAbs).length ≤ 2048) : toldE z = 0 := by unfold toldE; rw [if_pos h]
theorem toldV_long {z : Int} (h : 2048 < (natL z.natAbs).length) : toldV z = 0 := by unfold toldV; rw [if_neg (by omega)]
theorem toldE_long {z : Int} (h : 2048 < (natL z.natAbs).length) : toldE z = 4 := by unfold toldE; rw [if_neg (by omega)]
theorem IntOwn.value {w : World} {base : Nat} {v : Value} {x : Int} (h : IntOwn w base v x) : ∃ A c, v = .agg #[.bool (decide (x < 0)), .slice A (natL x.natAbs).length c] ∧ (natL x.natAbs).length ≤ 9223372036854775807 := by
  obtain ⟨A, c, h1, h2, h3, _⟩ := h.form
  exact ⟨A, c, h1, by omega⟩

end Go.Proofs.YtadmoheohmbieaaGreatDoor

/- An append of one cell to a row of the call's own: in place, or to a new block; the elder block then stays. -/
namespace Go.Proofs.YtadmoheohmbieaaGreatDoor
open Go.RowKit
section
variable {P : Program} (w : World)
/-- In place, or moved. -/
def Grew (w : World) (v : Value) (n : Nat) (v' : Value) (w' : World) : Prop :=
  (∃ g cap, v = .slice (some ⟨g, 0, none⟩) n cap ∧ v' = .slice (some ⟨g, 0, none⟩) (n + 1) cap ∧ w.grownBy w' (some g)) ∨ (v'.ownBlock = some w.heap.size ∧ w.grownBy w' none)
theorem run_append_one (base : Nat) (t ty e : TypeId) (i : TypeInfo) (z : Value) (bytes : Nat) (ht : P.underlying t = some (.slice e)) (hi : P.info? e = some i) (hz : i.zero = some z)
    (hsize : i.size = 1) (hby : i.bytes = bytes) (hzs : z.cells.size = 1) (v : Value) (n : Nat) (xs : List Value) (hown : w.ownsRow base e 1 v n xs)
    (a : Addr) (c : Nat) (u : Value) (hu : w.cell? a = some u) (h1 : u.oneCell' = true)
    (h63 : n + 1 ≤ maxLen) (hbytes : (n + 1) * bytes ≤ 140737488355328) (hbase : base ≤ w.heap.size) :
    ∃ v' w', (Builtin.append_ #[t, t] ty #[v, .slice (some a) 1 c]).run P w = .ok v' w' ∧ w'.ownsRow base e 1 v' (n + 1) (xs ++ [u]) ∧ Grew w v n v' w' := by
  have hnews : ∀ j x, [u][j]? = some x → w.cell? (a.add j) = some x := by
    intro j x hj
    cases j with
    | zero => simp at hj; subst hj; simpa [Addr.add] using hu
    | succ j => simp at hj
  have h1' : ∀ x ∈ [u], x.oneCell' = true := by simpa using h1
  obtain ⟨v', w', hrun, how, -, -, -⟩ := run_append_own_at (P := P) w base t ty e i z 1 bytes ht hi hz hsize hby hzs (by omega) v n xs hown a 1 c [u] rfl hnews h1' h63 hbytes hbase
  refine ⟨v', w', hrun, how, ?_⟩
  have hsmall : n + 1 ≤ 9223372036854775807 := by simp only [maxLen] at h63; omega
  have moved : ∀ o : Obj, w.grownBy (w.drew.alloc o) none := fun o => ⟨rfl, rfl, rfl, by simp, fun k hk _ => Below.heap_alloc w.drew _ k hk⟩
  rcases hown.2 with ⟨rfl, rfl⟩ | ⟨g, cap, cur, rfl, hbg, hg, hnc, hcm, hcs, htake⟩
  · have hr := run_append_nil (P := P) w t ty e i z ht hi hz a 1 c [u] (by simp [hsize]) hnews (by omega) (by omega) (by rw [hby]; omega)
    rw [hrun] at hr
    injection hr with e1 e2
    subst e1 e2
    exact .inr ⟨rfl, moved _⟩
  · by_cases hroom : n + 1 ≤ cap
    · obtain ⟨w1, hr, -, hgr⟩ := run_append_fits (P := P) w base t ty e i 1 ht hi hsize g n cap xs hown a 1 c [u] rfl hnews h1' hroom
      rw [hrun] at hr
      injection hr with e1 e2
      subst e1 e2
      exact .inl ⟨g, cap, rfl, rfl, hgr⟩
    · have holds : ∀ j x, xs[j]? = some x → w.cell? ((⟨g, 0, none⟩ : Addr).add j) = some x := hown.cells (g := g) rfl
      have hr := run_append_grow (P := P) w t ty e i z ht hi hz ⟨g, 0, none⟩ n cap xs (by rw [hsize]; exact hown.1) holds a 1 c [u] (by simp [hsize]) hnews (by omega) (by omega) (by rw [hby]; exact growslice_fits (by omega) hbytes)
      rw [hrun] at hr
      injection hr with e1 e2
      subst e1 e2
      exact .inr ⟨rfl, moved _⟩
theorem wpList_append_one {ops : Array Oper} {rest : List Oper} {o : Oper} {a : Act} {Q : Exit → Act → World → Prop} (hgd : o.guard = none) (s x : Operand) (t : TypeId)
    (ho : o.op = .call { callee := .builtin .append, args := #[s, x], argTypes := #[t, t] })
    (base : Nat) (e : TypeId) (i : TypeInfo) (z : Value) (bytes : Nat) (ht : P.underlying t = some (.slice e)) (hi : P.info? e = some i) (hz : i.zero = some z)
    (hsize : i.size = 1) (hby : i.bytes = bytes) (hzs : z.cells.size = 1)
    (v : Value) (n : Nat) (xs : List Value) (hs : a.eval s = v) (hown : w.ownsRow base e 1 v n xs)
    (ad : Addr) (c : Nat) (u : Value) (hx : a.eval x = .slice (some ad) 1 c) (hu : w.cell? ad = some u) (h1 : u.oneCell' = true)
    (h63 : n + 1 ≤ maxLen) (hbytes : (n + 1) * bytes ≤ 140737488355328) (hbase : base ≤ w.heap.size)
    (h : ∀ v' w', w'.ownsRow base e 1 v' (n + 1) (xs ++ [u]) → Grew w v n v' w' → wpList P ops Q rest (a.put o.dst v') w') : wpList P ops Q (o :: rest) a w := by
  refine wpList_plain hgd fun _ hK => ?_
  obtain ⟨v', w', hrun, h2, h3⟩ := run_append_one (P := P) w base t o.type e i z bytes ht hi hz hsize hby hzs v n xs hown ad c u hu h1 h63 hbytes hbase
  unfold Oper.wp execOp
  simp only [ho, resolve, invoke, builtin, Sem.run_bind, Sem.run_pure, Result.andThen_ok, List.map_toArray, List.map_cons, List.map_nil, hs, hx, hrun]
  exact hK _ _ (h v' w' h2 h3)
end
end Go.Proofs.YtadmoheohmbieaaGreatDoor

/- A Book that holds lists of limbs: what lies in memory; keepLimb. -/
namespace Go.Proofs.YtadmoheohmbieaaGreatDoor
open Go.RowKit

/-- The mark of the j-th list. -/
def markU (j : Nat) : Value := .int .u32 ((100001 + j : Nat) : Int)
abbrev nilS : Value := .slice none 0 0
/-- A Book's own cells. -/
abbrev bookC (m : Nat) (lims : Value) : Array Value := #[.int .i64 (m : Int), lims, nilS, nilS, nilS, nilS, nilS, nilS, nilS, nilS, nilS, nilS, nilS, nilS, nilS, nilS, nilS]
abbrev tBook : TypeId := 55
abbrev tHeld : TypeId := 119
abbrev tLimb : TypeId := 89
/-- The lists in hand, with their numbers. -/
structure HeldArr (w : World) (g0 m : Nat) (l long : Nat → Value) : Prop where
  cells : ∃ cs, Blk w g0 tHeld cs ∧ ∀ j, j < m → cs[j * 3]? = some (l j) ∧ cs[j * 3 + 1]? = some (long j) ∧ cs[j * 3 + 2]? = some (.int .i64 ((j + 1 : Nat) : Int))
def updV (f : Nat → Value) (i : Nat) (v : Value) : Nat → Value := fun j => if j = i then v else f j
theorem updV_same (f : Nat → Value) (i : Nat) (v : Value) : updV f i v i = v := by simp [updV]
theorem updV_ne (f : Nat → Value) {i j : Nat} (v : Value) (h : j ≠ i) : updV f i v j = f j := by simp [updV, h]
def updL (f : Nat → List Value) (i : Nat) (v : List Value) : Nat → List Value := fun j => if j = i then v else f j
theorem updL_same (f : Nat → List Value) (i : Nat) (v : List Value) : updL f i v i = v := by simp [updL]
theorem updL_ne (f : Nat → List Value) {i j : Nat} (v : List Value) (h : j ≠ i) : updL f i v j = f j := by simp [updL, h]

theorem HeldArr.below {w w' : World} {g0 m : Nat} {l long : Nat → Value} (h : HeldArr w g0 m l long) (hb : Below w.heap.size w w') : HeldArr w' g0 m l long := by
  obtain ⟨cs, h1, h2⟩ := h.cells
  exact ⟨cs, h1.below hb h1.lt, h2⟩
theorem HeldArr.lt {w : World} {g0 m : Nat} {l long : Nat → Value} (h : HeldArr w g0 m l long) : g0 < w.heap.size := by
  obtain ⟨cs, h1, _⟩ := h.cells
  exact h1.lt
theorem HeldArr.far {w : World} {g0 m g : Nat} {l long : Nat → Value} (h : HeldArr w g0 m l long) (hn : g0 ≠ g) (k : Nat) (u : Value) : HeldArr (w.setCell ⟨g, k, none⟩ u) g0 m l long := by
  obtain ⟨cs, h1, h2⟩ := h.cells
  exact ⟨cs, h1.far (p := ⟨g, k, none⟩) hn u, h2⟩
theorem HeldArr.kept {w w' : World} {g0 m : Nat} {l long : Nat → Value} (h : HeldArr w g0 m l long) {row : Option Nat} (hg : w.grownBy w' row) (hn : some g0 ≠ row) : HeldArr w' g0 m l long := by
  obtain ⟨cs, h1, h2⟩ := h.cells
  exact ⟨cs, (hg.block g0 h1.lt hn).trans h1, h2⟩
theorem HeldArr.set {w : World} {g0 m : Nat} {l long : Nat → Value} (h : HeldArr w g0 m l long) {i : Nat} (hi : i < m) (v : Value) : HeldArr (w.setCell ⟨g0, i * 3 + 1, none⟩ v) g0 m l (updV long i v) := by
  obtain ⟨cs, h1, h2⟩ := h.cells
  refine ⟨cs.setIfInBounds (i * 3 + 1) v, h1.set_ (i * 3 + 1) v, fun j hj => ?_⟩
  obtain ⟨a1, a2, a3⟩ := h2 j hj
  refine ⟨?_, ?_, ?_⟩
  · rw [Array.getElem?_setIfInBounds_ne (by omega)]; exact a1
  · by_cases e : j = i
    · subst e
      have hs : j * 3 + 1 < cs.size := (Array.getElem?_eq_some_iff.1 a2).1
      rw [updV_same]; simp [hs]
    · rw [Array.getElem?_setIfInBounds_ne (by omega), updV_ne _ _ e]; exact a2
  · rw [Array.getElem?_setIfInBounds_ne (by omega)]; exact a3
theorem HeldArr.at_ {w : World} {g0 m : Nat} {l long : Nat → Value} (h : HeldArr w g0 m l long) {i : Nat} (hi : i < m) :
    w.cell? ⟨g0, i * 3, none⟩ = some (l i) ∧ w.cell? ⟨g0, i * 3 + 1, none⟩ = some (long i) ∧ w.cell? ⟨g0, i * 3 + 2, none⟩ = some (.int .i64 ((i + 1 : Nat) : Int)) ∧ w.frozen? ⟨g0, i * 3 + 1, none⟩ = false := by
  obtain ⟨cs, h1, h2⟩ := h.cells
  obtain ⟨a1, a2, a3⟩ := h2 i hi
  exact ⟨by rw [h1.cell]; exact a1, by rw [h1.cell]; exact a2, by rw [h1.cell]; exact a3, h1.frozen _⟩

/-- A cell written into a row of the call's own. -/
theorem own_set {w : World} {base : Nat} {e : TypeId} {g n c : Nat} {xs : List Value} (h : w.ownsRow base e 1 (.slice (some ⟨g, 0, none⟩) n c) n xs) {k : Nat} (hk : k < n) (u : Value) : (w.setCell ⟨g, k, none⟩ u).ownsRow base e 1 (.slice (some ⟨g, 0, none⟩) n c) n (xs.set k u) := by
  refine ⟨by rw [List.length_set]; exact h.1, ?_⟩
  rcases h.2 with ⟨h1, h2⟩ | ⟨g', cap, cur, h1, h2, h3, h4, h5, h6, h7⟩
  · omega
  · injection h1 with a1 a2 a3
    injection a1 with a1
    injection a1 with a1
    subst a1 a3
    refine .inr ⟨g, c, cur.setIfInBounds k u, rfl, h2, Blk.set_ (cs := cur) (t := e) h3 k u, h4, h5, by simpa using h6, ?_⟩
    rw [← h7]
    simp [List.take_set]
theorem own_cut {w : World} {base : Nat} {e : TypeId} {A : Option Addr} {n c k : Nat} {xs : List Value} (h : w.ownsRow base e 1 (.slice A n c) n xs) (hk : k ≤ n) : w.ownsRow base e 1 (.slice A k c) k (xs.take k) := by
  rcases h.2 with ⟨h1, h2⟩ | ⟨g, cap, cur, h1, h2, h3, h4, h5, h6, h7⟩
  · injection h1 with a1 a2 a3
    subst a1 a3
    have : k = 0 := by omega
    subst this
    exact ⟨by simp, .inl ⟨rfl, rfl⟩⟩
  · injection h1 with a1 a2 a3
    subst a1 a3
    have hl := h.1
    refine ⟨by rw [List.length_take]; omega, .inr ⟨g, c, cur, rfl, h2, h3, by omega, h5, h6, ?_⟩⟩
    rw [← h7, List.take_take, Nat.mul_one, Nat.mul_one, Nat.min_eq_left (by omega)]

/-- What does not change while the lists are filled and grown. -/
structure Plain (b g0 m B0 : Nat) (l : Nat → Value) (n : Nat → Nat) : Prop where
  hb : B0 ≤ b
  hg : b < g0
  hm : m ≤ 1000
  hn : ∀ j, j < m → n j ≤ 1073741824
  under : ∀ j, j < m → ∀ g, (l j).ownBlock = some g → g < b
  apart : ∀ j k, j < m → k < m → j ≠ k → ∀ g, (l j).ownBlock = some g → (l k).ownBlock ≠ some g
structure Shelf (w0 w : World) (b g0 cap m B0 : Nat) (l long : Nat → Value) (n : Nat → Nat) (X : Nat → List Value) : Prop where
  book : Blk w b tBook (bookC m (.slice (some ⟨g0, 0, none⟩) m cap))
  arr : HeldArr w g0 m l long
  rows : ∀ j, j < m → w.ownsRow B0 tLimb 1 (l j) (n j) (X j)
  low : Below B0 w0 w
section
variable {w0 w w' : World} {b g0 cap m B0 : Nat} {l long : Nat → Value} {n : Nat → Nat} {X : Nat → List Value}
theorem Shelf.below (h : Shelf w0 w b g0 cap m B0 l long n X) (p : Plain b g0 m B0 l n) (hb : Below w.heap.size w w') : Shelf w0 w' b g0 cap m B0 l long n X :=
  ⟨h.book.below hb h.book.lt, h.arr.below hb, fun j hj => own_below (h.rows j hj) hb, h.low.trans (hb.mono (by have := h.book.lt; have := p.hb; omega))⟩
theorem Shelf.alloc (h : Shelf w0 w b g0 cap m B0 l long n X) (p : Plain b g0 m B0 l n) (o : Obj) : Shelf w0 (w.alloc o) b g0 cap m B0 l long n X := h.below p ((Below.refl _ _).alloc (Nat.le_refl _) o)
theorem Shelf.drewN (h : Shelf w0 w b g0 cap m B0 l long n X) (k : Nat) : Shelf w0 (w.drewN k) b g0 cap m B0 l long n X :=
  ⟨h.book.drewN k, by obtain ⟨cs, h1, h2⟩ := h.arr.cells; exact ⟨cs, h1.drewN k, h2⟩, h.rows, below_drewN h.low k⟩
theorem Shelf.write (h : Shelf w0 w b g0 cap m B0 l long n X) (p : Plain b g0 m B0 l n) {i g c k : Nat} (hi : i < m) (hl : l i = .slice (some ⟨g, 0, none⟩) (n i) c) (hk : k < n i) (u : Value) :
    Shelf w0 (w.setCell ⟨g, k, none⟩ u) b g0 cap m B0 l long n (updL X i ((X i).set k u)) := by
  have hgb : g < b := p.under i hi g (by rw [hl]; rfl)
  have hB : B0 ≤ g := ((h.rows i hi).lt g (by rw [hl]; rfl)).1
  refine ⟨h.book.far (p := ⟨g, k, none⟩) (by have : b ≠ g := by omega
                                             exact this) u, h.arr.far (by have := p.hg; omega) k u, fun j hj => ?_, h.low.setCell (p := ⟨g, k, none⟩) hB u⟩
  by_cases e : j = i
  · subst e
    rw [updL_same, hl]
    have := h.rows j hj
    rw [hl] at this
    exact own_set this hk u
  · rw [updL_ne _ _ e]
    exact ownsRow_setCell_other (h.rows j hj) (p.apart i j hi hj (Ne.symm e) g (by rw [hl]; rfl)) u
theorem Shelf.more (h : Shelf w0 w b g0 cap m B0 l long n X) (p : Plain b g0 m B0 l n) {i : Nat} (hi : i < m) (v : Value) : Shelf w0 (w.setCell ⟨g0, i * 3 + 1, none⟩ v) b g0 cap m B0 l (updV long i v) n X := by
  refine ⟨h.book.far (p := ⟨g0, i * 3 + 1, none⟩) (by have := p.hg; have : b ≠ g0 := by omega
                                                      exact this) v, h.arr.set hi v, fun j hj => ?_, h.low.setCell (p := ⟨g0, i * 3 + 1, none⟩) (by have := p.hg; have := p.hb; show B0 ≤ g0; omega) v⟩
  exact ownsRow_setCell_other (h.rows j hj) (fun e => by have := p.under j hj g0 e; have := p.hg; omega) v
end

/-- The Book while lists are put into it. -/
def heldCells (l : Nat → Value) (m : Nat) : List Value := (List.range m).flatMap fun j => [l j, nilS, .int .i64 ((j + 1 : Nat) : Int)]
theorem heldCells_length (l : Nat → Value) (m : Nat) : (heldCells l m).length = m * 3 := by
  unfold heldCells
  induction m with
  | zero => rfl
  | succ m ih => rw [List.range_succ, List.flatMap_append, List.length_append, ih]; simp; omega
theorem heldCells_more (l : Nat → Value) (m : Nat) (v : Value) : heldCells (updV l m v) (m + 1) = heldCells l m ++ [v, nilS, .int .i64 ((m + 1 : Nat) : Int)] := by
  unfold heldCells
  rw [List.range_succ, List.flatMap_append]
  congr 1
  · refine congrArg List.flatten (List.map_congr_left fun j hj => ?_)
    rw [updV_ne _ _ (by have := List.mem_range.1 hj; omega)]
  · simp [updV_same]
theorem heldCells_at (l : Nat → Value) (m j : Nat) (hj : j < m) : (heldCells l m)[j * 3]? = some (l j) ∧ (heldCells l m)[j * 3 + 1]? = some nilS ∧ (heldCells l m)[j * 3 + 2]? = some (.int .i64 ((j + 1 : Nat) : Int)) := by
  induction m with
  | zero => omega
  | succ m ih =>
    have e : heldCells l (m + 1) = heldCells l m ++ [l m, nilS, .int .i64 ((m + 1 : Nat) : Int)] := by
      have := heldCells_more l m (l m)
      rw [← this]
      congr 1
      funext k
      by_cases h : k = m
      · subst h; rw [updV_same]
      · rw [updV_ne _ _ h]
    have hl := heldCells_length l m
    rw [e]
    by_cases h : j = m
    · subst h
      refine ⟨?_, ?_, ?_⟩
      · rw [List.getElem?_append_right (by omega), hl]; simp
      · rw [List.getElem?_append_right (by omega), hl, show j * 3 + 1 - j * 3 = 1 by omega]; rfl
      · rw [List.getElem?_append_right (by omega), hl, show j * 3 + 2 - j * 3 = 2 by omega]; rfl
    · obtain ⟨a1, a2, a3⟩ := ih (by omega)
      refine ⟨?_, ?_, ?_⟩
      · rw [List.getElem?_append_left (by omega)]; exact a1
      · rw [List.getElem?_append_left (by omega)]; exact a2
      · rw [List.getElem?_append_left (by omega)]; exact a3
structure Keep (w : World) (b m : Nat) (l : Nat → Value) (lims : Value) : Prop where
  book : Blk w b tBook (bookC m lims)
  row : w.ownsRow (b + 1) tHeld 3 lims m (heldCells l m)
end Go.Proofs.YtadmoheohmbieaaGreatDoor
