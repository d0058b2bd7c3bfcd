/- Several texts in one: Append, Book, Keep, Nil. -/
import Derived.Test.YtkncbenhfcpgkaaGreatDoorPu01
import Derived.Test.YtkncbenhfcpgkaaGreatDoorPu08
import Derived.Test.YtkncbenhfcpgkaaGreatDoorPu07
import Derived.Test.YtkncbenhfcpgkaaGreatDoorPu05
import Derived.Test.YtkncbenhfcpgkaaGreatDoorPu04
import Derived.Test.YtkncbenhfcpgkaaGreatDoorPu03
import Derived.Test.YtkncbenhfcpgkaaGreatDoorPu02
import Derived.Test.YtkncbenhfcpgkaaGreatDoorPu06
import Derived.Test.YtkncbenhfcpgkaaGreatDoorPuHd
set_option maxRecDepth 100000
set_option maxHeartbeats 8000000
/- An append of one cell to a row of the call's own: in place, or to a new block; the elder block then stays. -/
namespace Go.Proofs.YtkncbenhfcpgkaaGreatDoor
open Go.RowKit
section
variable {P : Program} (w : World)
def Grew (w : World) (v : Value) (n : Nat) (v' : Value) (w' : World) : Prop :=
  (∃ g cap, v = .slice (some ⟨g, 0, none⟩) n cap ∧ v' = .slice (some ⟨g, 0, none⟩) (n + 1) cap ∧ w.grownBy w' (some g)) ∨ (v'.ownBlock = some w.heap.size ∧ w.grownBy w' none)
theorem run_append_one (base : Nat) (t ty e : TypeId) (i : TypeInfo) (z : Value) (bytes : Nat) (ht : P.underlying t = some (.slice e)) (hi : P.info? e = some i) (hz : i.zero = some z)
    (hsize : i.size = 1) (hby : i.bytes = bytes) (hzs : z.cells.size = 1) (v : Value) (n : Nat) (xs : List Value) (hown : w.ownsRow base e 1 v n xs)
    (a : Addr) (c : Nat) (u : Value) (hu : w.cell? a = some u) (h1 : u.oneCell' = true)
    (h63 : n + 1 ≤ maxLen) (hbytes : (n + 1) * bytes ≤ 140737488355328) (hbase : base ≤ w.heap.size) :
    ∃ v' w', (Builtin.append_ #[t, t] ty #[v, .slice (some a) 1 c]).run P w = .ok v' w' ∧ w'.ownsRow base e 1 v' (n + 1) (xs ++ [u]) ∧ Grew w v n v' w' := by
  have hnews : ∀ j x, [u][j]? = some x → w.cell? (a.add j) = some x := by
    intro j x hj
    cases j with
    | zero => simp at hj; subst hj; simpa [Addr.add] using hu
    | succ j => simp at hj
  have h1' : ∀ x ∈ [u], x.oneCell' = true := by simpa using h1
  obtain ⟨v', w', hrun, how, -, -, -⟩ := run_append_own_at (P := P) w base t ty e i z 1 bytes ht hi hz hsize hby hzs (by omega) v n xs hown a 1 c [u] rfl hnews h1' h63 hbytes hbase
  refine ⟨v', w', hrun, how, ?_⟩
  have hsmall : n + 1 ≤ 9223372036854775807 := by simp only [maxLen] at h63; omega
  have moved : ∀ o : Obj, w.grownBy (w.drew.alloc o) none := fun o => ⟨rfl, rfl, rfl, by simp, fun k hk _ => Below.heap_alloc w.drew _ k hk⟩
  rcases hown.2 with ⟨rfl, rfl⟩ | ⟨g, cap, cur, rfl, hbg, hg, hnc, hcm, hcs, htake⟩
  · have hr := run_append_nil (P := P) w t ty e i z ht hi hz a 1 c [u] (by simp [hsize]) hnews (by omega) (by omega) (by rw [hby]; omega)
    rw [hrun] at hr
    injection hr with e1 e2
    subst e1 e2
    exact .inr ⟨rfl, moved _⟩
  · by_cases hroom : n + 1 ≤ cap
    · obtain ⟨w1, hr, -, hgr⟩ := run_append_fits (P := P) w base t ty e i 1 ht hi hsize g n cap xs hown a 1 c [u] rfl hnews h1' hroom
      rw [hrun] at hr
      injection hr with e1 e2
      subst e1 e2
      exact .inl ⟨g, cap, rfl, rfl, hgr⟩
    · have holds : ∀ j x, xs[j]? = some x → w.cell? ((⟨g, 0, none⟩ : Addr).add j) = some x := hown.cells (g := g) rfl
      have hr := run_append_grow (P := P) w t ty e i z ht hi hz ⟨g, 0, none⟩ n cap xs (by rw [hsize]; exact hown.1) holds a 1 c [u] (by simp [hsize]) hnews (by omega) (by omega) (by rw [hby]; exact growslice_fits (by omega) hbytes)
      rw [hrun] at hr
      injection hr with e1 e2
      subst e1 e2
      exact .inr ⟨rfl, moved _⟩
theorem wpList_append_one {ops : Array Oper} {rest : List Oper} {o : Oper} {a : Act} {Q : Exit → Act → World → Prop} (hgd : o.guard = none) (s x : Operand) (t : TypeId)
    (ho : o.op = .call { callee := .builtin .append, args := #[s, x], argTypes := #[t, t] })
    (base : Nat) (e : TypeId) (i : TypeInfo) (z : Value) (bytes : Nat) (ht : P.underlying t = some (.slice e)) (hi : P.info? e = some i) (hz : i.zero = some z)
    (hsize : i.size = 1) (hby : i.bytes = bytes) (hzs : z.cells.size = 1)
    (v : Value) (n : Nat) (xs : List Value) (hs : a.eval s = v) (hown : w.ownsRow base e 1 v n xs)
    (ad : Addr) (c : Nat) (u : Value) (hx : a.eval x = .slice (some ad) 1 c) (hu : w.cell? ad = some u) (h1 : u.oneCell' = true)
    (h63 : n + 1 ≤ maxLen) (hbytes : (n + 1) * bytes ≤ 140737488355328) (hbase : base ≤ w.heap.size)
    (h : ∀ v' w', w'.ownsRow base e 1 v' (n + 1) (xs ++ [u]) → Grew w v n v' w' → wpList P ops Q rest (a.put o.dst v') w') : wpList P ops Q (o :: rest) a w := by
  refine wpList_plain hgd fun _ hK => ?_
  obtain ⟨v', w', hrun, h2, h3⟩ := run_append_one (P := P) w base t o.type e i z bytes ht hi hz hsize hby hzs v n xs hown ad c u hu h1 h63 hbytes hbase
  unfold Oper.wp execOp
  simp only [ho, resolve, invoke, builtin, Sem.run_bind, Sem.run_pure, Result.andThen_ok, List.map_toArray, List.map_cons, List.map_nil, hs, hx, hrun]
  exact hK _ _ (h v' w' h2 h3)
end
/- A Book that holds lists of limbs: what lies in memory; keepLimb. -/

def markU (j : Nat) : Value := .int .u32 ((100001 + j : Nat) : Int)
abbrev nilS : Value := .slice none 0 0
abbrev bookC (m : Nat) (lims : Value) : Array Value := #[.int .i64 (m : Int), lims, nilS, nilS, nilS, nilS, nilS, nilS, nilS, nilS, nilS, nilS, nilS, nilS, nilS, nilS, nilS]
abbrev tBook : TypeId := 51
abbrev tHeld : TypeId := 104
abbrev tLimb : TypeId := 70
structure HeldArr (w : World) (g0 m : Nat) (l long : Nat → Value) : Prop where
  cells : ∃ cs, Blk w g0 tHeld cs ∧ ∀ j, j < m → cs[j * 3]? = some (l j) ∧ cs[j * 3 + 1]? = some (long j) ∧ cs[j * 3 + 2]? = some (.int .i64 ((j + 1 : Nat) : Int))
def updV (f : Nat → Value) (i : Nat) (v : Value) : Nat → Value := fun j => if j = i then v else f j
theorem updV_same (f : Nat → Value) (i : Nat) (v : Value) : updV f i v i = v := by simp [updV]
theorem updV_ne (f : Nat → Value) {i j : Nat} (v : Value) (h : j ≠ i) : updV f i v j = f j := by simp [updV, h]
def updL (f : Nat → List Value) (i : Nat) (v : List Value) : Nat → List Value := fun j => if j = i then v else f j
theorem updL_same (f : Nat → List Value) (i : Nat) (v : List Value) : updL f i v i = v := by simp [updL]
theorem updL_ne (f : Nat → List Value) {i j : Nat} (v : List Value) (h : j ≠ i) : updL f i v j = f j := by simp [updL, h]

theorem HeldArr.below {w w' : World} {g0 m : Nat} {l long : Nat → Value} (h : HeldArr w g0 m l long) (hb : Below w.heap.size w w') : HeldArr w' g0 m l long := by
  obtain ⟨cs, h1, h2⟩ := h.cells
  exact ⟨cs, h1.below hb h1.lt, h2⟩
theorem HeldArr.lt {w : World} {g0 m : Nat} {l long : Nat → Value} (h : HeldArr w g0 m l long) : g0 < w.heap.size := by
  obtain ⟨cs, h1, _⟩ := h.cells
  exact h1.lt
theorem HeldArr.far {w : World} {g0 m g : Nat} {l long : Nat → Value} (h : HeldArr w g0 m l long) (hn : g0 ≠ g) (k : Nat) (u : Value) : HeldArr (w.setCell ⟨g, k, none⟩ u) g0 m l long := by
  obtain ⟨cs, h1, h2⟩ := h.cells
  exact ⟨cs, h1.far (p := ⟨g, k, none⟩) hn u, h2⟩
theorem HeldArr.kept {w w' : World} {g0 m : Nat} {l long : Nat → Value} (h : HeldArr w g0 m l long) {row : Option Nat} (hg : w.grownBy w' row) (hn : some g0 ≠ row) : HeldArr w' g0 m l long := by
  obtain ⟨cs, h1, h2⟩ := h.cells
  exact ⟨cs, (hg.block g0 h1.lt hn).trans h1, h2⟩
theorem HeldArr.set {w : World} {g0 m : Nat} {l long : Nat → Value} (h : HeldArr w g0 m l long) {i : Nat} (hi : i < m) (v : Value) : HeldArr (w.setCell ⟨g0, i * 3 + 1, none⟩ v) g0 m l (updV long i v) := by
  obtain ⟨cs, h1, h2⟩ := h.cells
  refine ⟨cs.setIfInBounds (i * 3 + 1) v, h1.set_ (i * 3 + 1) v, fun j hj => ?_⟩
  obtain ⟨a1, a2, a3⟩ := h2 j hj
  refine ⟨?_, ?_, ?_⟩
  · rw [Array.getElem?_setIfInBounds_ne (by omega)]; exact a1
  · by_cases e : j = i
    · subst e
      have hs : j * 3 + 1 < cs.size := (Array.getElem?_eq_some_iff.1 a2).1
      rw [updV_same]; simp [hs]
    · rw [Array.getElem?_setIfInBounds_ne (by omega), updV_ne _ _ e]; exact a2
  · rw [Array.getElem?_setIfInBounds_ne (by omega)]; exact a3
theorem HeldArr.at_ {w : World} {g0 m : Nat} {l long : Nat → Value} (h : HeldArr w g0 m l long) {i : Nat} (hi : i < m) :
    w.cell? ⟨g0, i * 3, none⟩ = some (l i) ∧ w.cell? ⟨g0, i * 3 + 1, none⟩ = some (long i) ∧ w.cell? ⟨g0, i * 3 + 2, none⟩ = some (.int .i64 ((i + 1 : Nat) : Int)) ∧ w.frozen? ⟨g0, i * 3 + 1, none⟩ = false := by
  obtain ⟨cs, h1, h2⟩ := h.cells
  obtain ⟨a1, a2, a3⟩ := h2 i hi
  exact ⟨by rw [h1.cell]; exact a1, by rw [h1.cell]; exact a2, by rw [h1.cell]; exact a3, h1.frozen _⟩

theorem own_set {w : World} {base : Nat} {e : TypeId} {g n c : Nat} {xs : List Value} (h : w.ownsRow base e 1 (.slice (some ⟨g, 0, none⟩) n c) n xs) {k : Nat} (hk : k < n) (u : Value) : (w.setCell ⟨g, k, none⟩ u).ownsRow base e 1 (.slice (some ⟨g, 0, none⟩) n c) n (xs.set k u) := by
  refine ⟨by rw [List.length_set]; exact h.1, ?_⟩
  rcases h.2 with ⟨h1, h2⟩ | ⟨g', cap, cur, h1, h2, h3, h4, h5, h6, h7⟩
  · omega
  · injection h1 with a1 a2 a3
    injection a1 with a1
    injection a1 with a1
    subst a1 a3
    refine .inr ⟨g, c, cur.setIfInBounds k u, rfl, h2, Blk.set_ (cs := cur) (t := e) h3 k u, h4, h5, by simpa using h6, ?_⟩
    rw [← h7]
    simp [List.take_set]
theorem own_cut {w : World} {base : Nat} {e : TypeId} {A : Option Addr} {n c k : Nat} {xs : List Value} (h : w.ownsRow base e 1 (.slice A n c) n xs) (hk : k ≤ n) : w.ownsRow base e 1 (.slice A k c) k (xs.take k) := by
  rcases h.2 with ⟨h1, h2⟩ | ⟨g, cap, cur, h1, h2, h3, h4, h5, h6, h7⟩
  · injection h1 with a1 a2 a3
    subst a1 a3
    have : k = 0 := by omega
    subst this
    exact ⟨by simp, .inl ⟨rfl, rfl⟩⟩
  · injection h1 with a1 a2 a3
    subst a1 a3
    have hl := h.1
    refine ⟨by rw [List.length_take]; omega, .inr ⟨g, c, cur, rfl, h2, h3, by omega, h5, h6, ?_⟩⟩
    rw [← h7, List.take_take, Nat.mul_one, Nat.mul_one, Nat.min_eq_left (by omega)]

structure Plain (b g0 m B0 : Nat) (l : Nat → Value) (n : Nat → Nat) : Prop where
  hb : B0 ≤ b
  hg : b < g0
  hm : m ≤ 1000
  hn : ∀ j, j < m → n j ≤ 1073741824
  under : ∀ j, j < m → ∀ g, (l j).ownBlock = some g → g ≠ b ∧ g ≠ g0
  apart : ∀ j k, j < m → k < m → j ≠ k → ∀ g, (l j).ownBlock = some g → (l k).ownBlock ≠ some g
structure Shelf (w0 w : World) (b g0 cap m B0 : Nat) (l long : Nat → Value) (n : Nat → Nat) (X : Nat → List Value) : Prop where
  book : Blk w b tBook (bookC m (.slice (some ⟨g0, 0, none⟩) m cap))
  arr : HeldArr w g0 m l long
  rows : ∀ j, j < m → w.ownsRow B0 tLimb 1 (l j) (n j) (X j)
  low : Below B0 w0 w
section
variable {w0 w w' : World} {b g0 cap m B0 : Nat} {l long : Nat → Value} {n : Nat → Nat} {X : Nat → List Value}
theorem Shelf.below (h : Shelf w0 w b g0 cap m B0 l long n X) (p : Plain b g0 m B0 l n) (hb : Below w.heap.size w w') : Shelf w0 w' b g0 cap m B0 l long n X :=
  ⟨h.book.below hb h.book.lt, h.arr.below hb, fun j hj => own_below (h.rows j hj) hb, h.low.trans (hb.mono (by have := h.book.lt; have := p.hb; omega))⟩
theorem Shelf.alloc (h : Shelf w0 w b g0 cap m B0 l long n X) (p : Plain b g0 m B0 l n) (o : Obj) : Shelf w0 (w.alloc o) b g0 cap m B0 l long n X := h.below p ((Below.refl _ _).alloc (Nat.le_refl _) o)
theorem Shelf.drewN (h : Shelf w0 w b g0 cap m B0 l long n X) (k : Nat) : Shelf w0 (w.drewN k) b g0 cap m B0 l long n X :=
  ⟨h.book.drewN k, by obtain ⟨cs, h1, h2⟩ := h.arr.cells; exact ⟨cs, h1.drewN k, h2⟩, h.rows, below_drewN h.low k⟩
theorem Shelf.write (h : Shelf w0 w b g0 cap m B0 l long n X) (p : Plain b g0 m B0 l n) {i g c k : Nat} (hi : i < m) (hl : l i = .slice (some ⟨g, 0, none⟩) (n i) c) (hk : k < n i) (u : Value) :
    Shelf w0 (w.setCell ⟨g, k, none⟩ u) b g0 cap m B0 l long n (updL X i ((X i).set k u)) := by
  have hgb := p.under i hi g (by rw [hl]; rfl)
  have hB : B0 ≤ g := ((h.rows i hi).lt g (by rw [hl]; rfl)).1
  refine ⟨h.book.far (p := ⟨g, k, none⟩) (by have : b ≠ g := by omega
                                             exact this) u, h.arr.far (by omega) k u, fun j hj => ?_, h.low.setCell (p := ⟨g, k, none⟩) hB u⟩
  by_cases e : j = i
  · subst e
    rw [updL_same, hl]
    have := h.rows j hj
    rw [hl] at this
    exact own_set this hk u
  · rw [updL_ne _ _ e]
    exact ownsRow_setCell_other (h.rows j hj) (p.apart i j hi hj (Ne.symm e) g (by rw [hl]; rfl)) u
theorem Shelf.more (h : Shelf w0 w b g0 cap m B0 l long n X) (p : Plain b g0 m B0 l n) {i : Nat} (hi : i < m) (v : Value) : Shelf w0 (w.setCell ⟨g0, i * 3 + 1, none⟩ v) b g0 cap m B0 l (updV long i v) n X := by
  refine ⟨h.book.far (p := ⟨g0, i * 3 + 1, none⟩) (by have := p.hg; have : b ≠ g0 := by omega
                                                      exact this) v, h.arr.set hi v, fun j hj => ?_, h.low.setCell (p := ⟨g0, i * 3 + 1, none⟩) (by have := p.hg; have := p.hb; show B0 ≤ g0; omega) v⟩
  exact ownsRow_setCell_other (h.rows j hj) (fun e => (p.under j hj g0 e).2 rfl) v
end

def heldCells (l : Nat → Value) (m : Nat) : List Value := (List.range m).flatMap fun j => [l j, nilS, .int .i64 ((j + 1 : Nat) : Int)]
theorem heldCells_length (l : Nat → Value) (m : Nat) : (heldCells l m).length = m * 3 := by
  unfold heldCells
  induction m with
  | zero => rfl
  | succ m ih => rw [List.range_succ, List.flatMap_append, List.length_append, ih]; simp; omega
theorem heldCells_more (l : Nat → Value) (m : Nat) (v : Value) : heldCells (updV l m v) (m + 1) = heldCells l m ++ [v, nilS, .int .i64 ((m + 1 : Nat) : Int)] := by
  unfold heldCells
  rw [List.range_succ, List.flatMap_append]
  congr 1
  · refine congrArg List.flatten (List.map_congr_left fun j hj => ?_)
    rw [updV_ne _ _ (by have := List.mem_range.1 hj; omega)]
  · simp [updV_same]
theorem heldCells_at (l : Nat → Value) (m j : Nat) (hj : j < m) : (heldCells l m)[j * 3]? = some (l j) ∧ (heldCells l m)[j * 3 + 1]? = some nilS ∧ (heldCells l m)[j * 3 + 2]? = some (.int .i64 ((j + 1 : Nat) : Int)) := by
  induction m with
  | zero => omega
  | succ m ih =>
    have e : heldCells l (m + 1) = heldCells l m ++ [l m, nilS, .int .i64 ((m + 1 : Nat) : Int)] := by
      have := heldCells_more l m (l m)
      rw [← this]
      congr 1
      funext k
      by_cases h : k = m
      · subst h; rw [updV_same]
      · rw [updV_ne _ _ h]
    have hl := heldCells_length l m
    rw [e]
    by_cases h : j = m
    · subst h
      refine ⟨?_, ?_, ?_⟩
      · rw [List.getElem?_append_right (by omega), hl]; simp
      · rw [List.getElem?_append_right (by omega), hl, show j * 3 + 1 - j * 3 = 1 by omega]; rfl
      · rw [List.getElem?_append_right (by omega), hl, show j * 3 + 2 - j * 3 = 2 by omega]; rfl
    · obtain ⟨a1, a2, a3⟩ := ih (by omega)
      refine ⟨?_, ?_, ?_⟩
      · rw [List.getElem?_append_left (by omega)]; exact a1
      · rw [List.getElem?_append_left (by omega)]; exact a2
      · rw [List.getElem?_append_left (by omega)]; exact a3
structure Keep (w : World) (b m : Nat) (l : Nat → Value) (lims : Value) : Prop where
  book : Blk w b tBook (bookC m lims)
  row : w.ownsRow (b + 1) tHeld 3 lims m (heldCells l m)
/- keepLimb: a list is put into a Book. -/
theorem heldInfo : (Tryz.prog.info? 104).map (fun i => (i.zero, i.size, i.bytes)) = some (some (.agg #[nilS, nilS, .int .i64 0]), 3, 56) := by kernel_rfl

theorem keep_limb (b m : Nat) (l : Nat → Value) (lims : Value) (vA : Option Addr) (vn vc : Nat) (hm : m ≤ 1000) (w : World) (h : Keep w b m l lims) :
    Calls Tryz.prog 41 #[.pointer (some ⟨b, 0, none⟩), .slice vA vn vc] w fun e w' => e = .returned (.tuple #[]) ∧ ∃ lims', Keep w' b (m + 1) (updV l m (.slice vA vn vc)) lims' ∧ Below b w w' := by
  obtain ⟨i0, hi, hz0, hz1, hz2⟩ := info_parts heldInfo
  have hb := h.book
  have hrow := h.row
  have hlt := hb.lt
  have c0 := hb.cell 0
  have f0 := hb.frozen 0
  simp at c0
  have hadd : IntKind.i64.wrap ((m : Int) + 1) = ((m + 1 : Nat) : Int) := by rw [IntWalk.i64_in _ (by omega)]; omega
  clear h
  have HB := Hd hb
  have HR := Hd hrow
  clear hb hrow
  go_enter Tryz.func41, Tryz.ntmps41
  go_wp2_with fail
  have hW : Blk (w.setCell ⟨b, 0, none⟩ (.int .i64 ((m : Int) + 1))) b tBook #[.int .i64 ((m : Int) + 1), lims, nilS, nilS, nilS, nilS, nilS, nilS, nilS, nilS, nilS, nilS, nilS, nilS, nilS, nilS, nilS] := HB.out.set_ 0 _
  have hrW := ownsRow_setCell_below HR.out (a := ⟨b, 0, none⟩) (Nat.lt_succ_self b) (.int .i64 ((m : Int) + 1))
  have hbW : Below b w (w.setCell ⟨b, 0, none⟩ (.int .i64 ((m : Int) + 1))) := (Below.refl b w).setCell (p := ⟨b, 0, none⟩) (Nat.le_refl _) _
  obtain ⟨W, E⟩ : ∃ W, W = w.setCell ⟨b, 0, none⟩ (.int .i64 ((m : Int) + 1)) := ⟨_, rfl⟩
  rw [← E] at hW hrW hbW ⊢
  clear E HB HR c0 f0
  have hltW := hW.lt
  have HW := Hd hW
  have HR := Hd hrW
  have HB := Hd hbW
  clear hW hrW hbW hadd
  refine wp_region_stepsB [.val (.pointer (some ⟨b, 0, none⟩)), .val (.pointer (some ⟨b, 0, none⟩)), .val (.pointer (some ⟨b, 0, none⟩)), .val (.pointer (some ⟨b, 1, none⟩)), .val lims, .val (.slice vA vn vc), .val (.pointer (some ⟨b, 0, none⟩)), .val (.pointer (some ⟨b, 0, none⟩)), .val (.pointer (some ⟨b, 0, none⟩)), .val (.int .i64 ((m : Int) + 1)), .val (.agg #[.slice vA vn vc, nilS, .int .i64 ((m : Int) + 1)]), .step, .step, .step, .step, .step] 4 5 (b + 1) W (by omega)
    (fun us V => match us with
      | [] => V.ownsRow (b + 1) tHeld 3 lims m (heldCells l m)
      | [u0] => V.ownsRow (b + 1) tHeld 3 lims m (heldCells l m) ∧ ∃ g, u0 = .slice (some ⟨g, 0, none⟩) 1 1 ∧ Reads V V.heap.size 3 (some ⟨g, 0, none⟩) 1 [.slice vA vn vc, nilS, .int .i64 ((m : Int) + 1)]
      | [_, u1] => V.ownsRow (b + 1) tHeld 3 u1 (m + 1) (heldCells (updV l m (.slice vA vn vc)) (m + 1))
      | [_, u1, u2] => u2 = .pointer (some ⟨b, 0, none⟩) ∧ V.ownsRow (b + 1) tHeld 3 u1 (m + 1) (heldCells (updV l m (.slice vA vn vc)) (m + 1))
      | [_, u1, _, u3] => u3 = .pointer (some ⟨b, 1, none⟩) ∧ V.ownsRow (b + 1) tHeld 3 u1 (m + 1) (heldCells (updV l m (.slice vA vn vc)) (m + 1))
      | _ => False)
    (fun _ V => ∃ lims', Keep V b (m + 1) (updV l m (.slice vA vn vc)) lims' ∧ Below b w V)
    _ mixedOrders2 (by kernel_rfl) (by kernel_rfl) (by kernel_rfl) (by kernel_rfl) (by kernel_rfl) (by kernel_rfl) (by kernel_rfl) (by kernel_rfl) (by kernel_rfl) rfl ?_ (Below.refl _ _) HR.out.drew ?_ ?_ ?_
  · intro us V V' hg hb
    match us, hg with
    | [], hg => exact own_below hg hb
    | [u0], ⟨h1, g, h2, h3⟩ => exact ⟨own_below h1 hb, g, h2, (h3.below hb).more hb.size⟩
    | [_, u1], hg => exact own_below hg hb
    | [_, u1, u2], hg => exact ⟨hg.1, own_below hg.2 hb⟩
    | [_, u1, u2, u3], hg => exact ⟨hg.1, own_below hg.2 hb⟩
  · simp [ValsOk, chainAct, fill, pairs, valAt]
    repeat' apply And.intro
    all_goals
      intro V hV
      have hx := HW.out.below hV (Nat.lt_succ_self b)
      have c0 := hx.cell 0
      have c1 := hx.cell 1
      simp at c0 c1
      clear hV hx
      go_simp
      try exact Below.refl _ _
  · simp [StepsOk, chainAct, fill, pairs, valAt, stepNo, List.filter, Stp.isStep]
    refine ⟨fun V hV hr => ?_, fun u0 => ⟨fun V hV hr g hu hrd => ?_, fun u1 => ⟨fun V hV hr => ?_, fun u2 => ⟨fun V hV hu2 hr => ?_, fun u3 V hV hu3 hr => ?_⟩⟩⟩⟩
    · go_simp
      exact ⟨hV.alloc (by have := hV.size; omega) _, own_below hr ((Below.refl _ _).alloc (Nat.le_refl _) _), Reads.new1 V _ 3 _ rfl⟩
    · subst hu
      have hsz := hV.size
      refine wp_append_any V (.tmp 15) (.tmp 22) _ rfl (b + 1) tHeld i0 _ 3 56 Tryz.underlying34 hi hz0 hz1 hz2 rfl (by omega) lims m (heldCells l m) rfl hr V.heap.size (some ⟨g, 0, none⟩) 1 1 [.slice vA vn vc, nilS, .int .i64 ((m : Int) + 1)] rfl hrd (by simp [Value.oneCell']) (by unfold maxLen; omega) (by omega) (by omega) ?_
      intro v' w' ho hg hat
      refine ⟨v', rfl, hV.grown hg (by omega) (fun k hk => (hr.lt k hk).1), ?_⟩
      rw [heldCells_more, show ((m + 1 : Nat) : Int) = (m : Int) + 1 by omega]
      exact ho
    · go_simp
      try exact ⟨hV, hr⟩
    · subst hu2
      go_simp
      try exact ⟨hV, hr⟩
    · subst hu3
      obtain ⟨A1, k1, rfl⟩ := own_form (by omega) hr
      have hx := HW.out.below hV (Nat.lt_succ_self b)
      have c1 := hx.cell 1
      have f1 := hx.frozen 1
      simp at c1
      go_simp
      refine ⟨⟨.slice A1 (m + 1) k1, ?_, ?_⟩, (HB.out.trans (hV.mono (Nat.le_succ b))).setCell (p := ⟨b, 1, none⟩) (Nat.le_refl _) _⟩
      · have := hx.set_ 1 (.slice A1 (m + 1) k1)
        exact this
      · exact ownsRow_setCell_below hr (a := ⟨b, 1, none⟩) (Nat.lt_succ_self b) _
  · intro us V hus hF
    simp only [show ¬ (5 ≤ 4) by decide, if_false] at hF
    have HF := Hd hF
    obtain ⟨u0, u1, u2, u3, u4, rfl⟩ : ∃ u0 u1 u2 u3 u4, us = [u0, u1, u2, u3, u4] := by
      match us, hus with
      | [u0, u1, u2, u3, u4], _ => exact ⟨u0, u1, u2, u3, u4, rfl⟩
    simp [chainAct, fill, pairs, valAt, stepNo, List.filter, Stp.isStep]
    clear hF HW HR HB
    go_wp2_with fail
    exact bodyPost_end (v := .tuple #[]) (by simp [results, Tryz.results41, go_sem]) rfl ⟨rfl, HF.out⟩
theorem Keep.below {w w' : World} {b m : Nat} {l : Nat → Value} {lims : Value} (h : Keep w b m l lims) (hb : Below w.heap.size w w') : Keep w' b m l lims :=
  ⟨h.book.below hb h.book.lt, own_below h.row hb⟩

theorem book_Int (b m : Nat) (l : Nat → Value) (lims : Value) (neg : Bool) (vA : Option Addr) (vn vc : Nat) (hm : m ≤ 1000) (w : World) (h : Keep w b m l lims) :
    Calls Tryz.prog 14 #[.pointer (some ⟨b, 0, none⟩), .agg #[.bool neg, .slice vA vn vc]] w fun e w' => e = .returned (.tuple #[]) ∧ ∃ lims', Keep w' b (m + 1) (updV l m (.slice vA vn vc)) lims' ∧ Below b w w' := by
  have hlt := h.book.lt
  have C := Hd (keep_limb b m l lims vA vn vc hm _ (h.below ((Below.refl _ _).alloc (Nat.le_refl _) (.cells #[.bool neg, .slice vA vn vc] 24))))
  have hb := Hd (((Below.refl w.heap.size w).alloc (Nat.le_refl _) (.cells #[.bool neg, .slice vA vn vc] 24)).mono (Nat.le_of_lt hlt))
  clear h
  go_enter Tryz.func14, Tryz.ntmps14
  go_wp2_with fail
  refine C.out.mono ?_
  rintro e w' ⟨rfl, lims', hk, hb2⟩
  have HF := Hd (⟨lims', hk, hb.out.trans hb2⟩ : ∃ lims', Keep w' b (m + 1) (updV l m (.slice vA vn vc)) lims' ∧ Below b w w')
  clear C hb hk hb2
  go_wp2_with fail
  exact bodyPost_end (v := .tuple #[]) (by simp [results, Tryz.results14, go_sem]) rfl ⟨rfl, HF.out⟩
/- The other lists of a Book, of which there is none. (Written by wip/book/gennil.py.) -/

theorem fill_Number (b m : Nat) (lims : Value) (w : World) (h : Blk w b tBook (bookC m lims)) :
    Calls Tryz.prog 43 #[.pointer (some ⟨b, 0, none⟩)] w fun e w' => e = .returned (.tuple #[]) ∧ w = w' := by
  have c := h.cell 2
  simp at c
  clear h
  go_enter Tryz.func43, Tryz.ntmps43
  go_wp2_with fail
  go_loop [2] (fun v => v = .int .i64 0) (fun _ => 0)
  case atStart => exact rfl
  case round =>
    subst hrel
    go_wp2_with fail
    exact bodyPost_end (v := .tuple #[]) (by simp [results, Tryz.results43, go_sem]) rfl ⟨rfl, rfl⟩

theorem grow_Number (b m : Nat) (lims : Value) (w : World) (h : Blk w b tBook (bookC m lims)) :
    Calls Tryz.prog 59 #[.pointer (some ⟨b, 0, none⟩)] w fun e w' => e = .returned (.tuple #[]) ∧ w = w' := by
  have c := h.cell 2
  simp at c
  clear h
  go_enter Tryz.func59, Tryz.ntmps59
  go_wp2_with fail
  go_loop [2] (fun v => v = .int .i64 0) (fun _ => 0)
  case atStart => exact rfl
  case round =>
    subst hrel
    go_wp2_with fail
    exact bodyPost_end (v := .tuple #[]) (by simp [results, Tryz.results59, go_sem]) rfl ⟨rfl, rfl⟩

theorem look_Number (b m : Nat) (lims : Value) (w : World) (h : Blk w b tBook (bookC m lims)) :
    Calls Tryz.prog 75 #[.pointer (some ⟨b, 0, none⟩)] w fun e w' => e = .returned (.bool true) ∧ w = w' := by
  have c := h.cell 2
  simp at c
  clear h
  go_enter Tryz.func75, Tryz.ntmps75
  go_wp2_with fail
  go_loop [3] (fun v => v = .int .i64 0) (fun _ => 0)
  case atStart => exact rfl
  case round =>
    subst hrel
    go_wp2_with fail
    go_ret
    exact ⟨rfl, rfl⟩

theorem fill_Float (b m : Nat) (lims : Value) (w : World) (h : Blk w b tBook (bookC m lims)) :
    Calls Tryz.prog 44 #[.pointer (some ⟨b, 0, none⟩)] w fun e w' => e = .returned (.tuple #[]) ∧ w = w' := by
  have c := h.cell 3
  simp at c
  clear h
  go_enter Tryz.func44, Tryz.ntmps44
  go_wp2_with fail
  go_loop [2] (fun v => v = .int .i64 0) (fun _ => 0)
  case atStart => exact rfl
  case round =>
    subst hrel
    go_wp2_with fail
    exact bodyPost_end (v := .tuple #[]) (by simp [results, Tryz.results44, go_sem]) rfl ⟨rfl, rfl⟩

theorem grow_Float (b m : Nat) (lims : Value) (w : World) (h : Blk w b tBook (bookC m lims)) :
    Calls Tryz.prog 60 #[.pointer (some ⟨b, 0, none⟩)] w fun e w' => e = .returned (.tuple #[]) ∧ w = w' := by
  have c := h.cell 3
  simp at c
  clear h
  go_enter Tryz.func60, Tryz.ntmps60
  go_wp2_with fail
  go_loop [2] (fun v => v = .int .i64 0) (fun _ => 0)
  case atStart => exact rfl
  case round =>
    subst hrel
    go_wp2_with fail
    exact bodyPost_end (v := .tuple #[]) (by simp [results, Tryz.results60, go_sem]) rfl ⟨rfl, rfl⟩

theorem look_Float (b m : Nat) (lims : Value) (w : World) (h : Blk w b tBook (bookC m lims)) :
    Calls Tryz.prog 76 #[.pointer (some ⟨b, 0, none⟩)] w fun e w' => e = .returned (.bool true) ∧ w = w' := by
  have c := h.cell 3
  simp at c
  clear h
  go_enter Tryz.func76, Tryz.ntmps76
  go_wp2_with fail
  go_loop [3] (fun v => v = .int .i64 0) (fun _ => 0)
  case atStart => exact rfl
  case round =>
    subst hrel
    go_wp2_with fail
    go_ret
    exact ⟨rfl, rfl⟩

theorem fill_Complex (b m : Nat) (lims : Value) (w : World) (h : Blk w b tBook (bookC m lims)) :
    Calls Tryz.prog 45 #[.pointer (some ⟨b, 0, none⟩)] w fun e w' => e = .returned (.tuple #[]) ∧ w = w' := by
  have c := h.cell 4
  simp at c
  clear h
  go_enter Tryz.func45, Tryz.ntmps45
  go_wp2_with fail
  go_loop [2] (fun v => v = .int .i64 0) (fun _ => 0)
  case atStart => exact rfl
  case round =>
    subst hrel
    go_wp2_with fail
    exact bodyPost_end (v := .tuple #[]) (by simp [results, Tryz.results45, go_sem]) rfl ⟨rfl, rfl⟩

theorem grow_Complex (b m : Nat) (lims : Value) (w : World) (h : Blk w b tBook (bookC m lims)) :
    Calls Tryz.prog 61 #[.pointer (some ⟨b, 0, none⟩)] w fun e w' => e = .returned (.tuple #[]) ∧ w = w' := by
  have c := h.cell 4
  simp at c
  clear h
  go_enter Tryz.func61, Tryz.ntmps61
  go_wp2_with fail
  go_loop [2] (fun v => v = .int .i64 0) (fun _ => 0)
  case atStart => exact rfl
  case round =>
    subst hrel
    go_wp2_with fail
    exact bodyPost_end (v := .tuple #[]) (by simp [results, Tryz.results61, go_sem]) rfl ⟨rfl, rfl⟩

theorem look_Complex (b m : Nat) (lims : Value) (w : World) (h : Blk w b tBook (bookC m lims)) :
    Calls Tryz.prog 77 #[.pointer (some ⟨b, 0, none⟩)] w fun e w' => e = .returned (.bool true) ∧ w = w' := by
  have c := h.cell 4
  simp at c
  clear h
  go_enter Tryz.func77, Tryz.ntmps77
  go_wp2_with fail
  go_loop [3] (fun v => v = .int .i64 0) (fun _ => 0)
  case atStart => exact rfl
  case round =>
    subst hrel
    go_wp2_with fail
    go_ret
    exact ⟨rfl, rfl⟩

theorem fill_Text (b m : Nat) (lims : Value) (w : World) (h : Blk w b tBook (bookC m lims)) :
    Calls Tryz.prog 46 #[.pointer (some ⟨b, 0, none⟩)] w fun e w' => e = .returned (.tuple #[]) ∧ w = w' := by
  have c := h.cell 5
  simp at c
  clear h
  go_enter Tryz.func46, Tryz.ntmps46
  go_wp2_with fail
  go_loop [2] (fun v => v = .int .i64 0) (fun _ => 0)
  case atStart => exact rfl
  case round =>
    subst hrel
    go_wp2_with fail
    exact bodyPost_end (v := .tuple #[]) (by simp [results, Tryz.results46, go_sem]) rfl ⟨rfl, rfl⟩

theorem grow_Text (b m : Nat) (lims : Value) (w : World) (h : Blk w b tBook (bookC m lims)) :
    Calls Tryz.prog 62 #[.pointer (some ⟨b, 0, none⟩)] w fun e w' => e = .returned (.tuple #[]) ∧ w = w' := by
  have c := h.cell 5
  simp at c
  clear h
  go_enter Tryz.func62, Tryz.ntmps62
  go_wp2_with fail
  go_loop [2] (fun v => v = .int .i64 0) (fun _ => 0)
  case atStart => exact rfl
  case round =>
    subst hrel
    go_wp2_with fail
    exact bodyPost_end (v := .tuple #[]) (by simp [results, Tryz.results62, go_sem]) rfl ⟨rfl, rfl⟩

theorem look_Text (b m : Nat) (lims : Value) (w : World) (h : Blk w b tBook (bookC m lims)) :
    Calls Tryz.prog 78 #[.pointer (some ⟨b, 0, none⟩)] w fun e w' => e = .returned (.bool true) ∧ w = w' := by
  have c := h.cell 5
  simp at c
  clear h
  go_enter Tryz.func78, Tryz.ntmps78
  go_wp2_with fail
  go_loop [3] (fun v => v = .int .i64 0) (fun _ => 0)
  case atStart => exact rfl
  case round =>
    subst hrel
    go_wp2_with fail
    go_ret
    exact ⟨rfl, rfl⟩

theorem fill_Frac (b m : Nat) (lims : Value) (w : World) (h : Blk w b tBook (bookC m lims)) :
    Calls Tryz.prog 47 #[.pointer (some ⟨b, 0, none⟩)] w fun e w' => e = .returned (.tuple #[]) ∧ w = w' := by
  have c := h.cell 6
  simp at c
  clear h
  go_enter Tryz.func47, Tryz.ntmps47
  go_wp2_with fail
  go_loop [2] (fun v => v = .int .i64 0) (fun _ => 0)
  case atStart => exact rfl
  case round =>
    subst hrel
    go_wp2_with fail
    exact bodyPost_end (v := .tuple #[]) (by simp [results, Tryz.results47, go_sem]) rfl ⟨rfl, rfl⟩

theorem grow_Frac (b m : Nat) (lims : Value) (w : World) (h : Blk w b tBook (bookC m lims)) :
    Calls Tryz.prog 63 #[.pointer (some ⟨b, 0, none⟩)] w fun e w' => e = .returned (.tuple #[]) ∧ w = w' := by
  have c := h.cell 6
  simp at c
  clear h
  go_enter Tryz.func63, Tryz.ntmps63
  go_wp2_with fail
  go_loop [2] (fun v => v = .int .i64 0) (fun _ => 0)
  case atStart => exact rfl
  case round =>
    subst hrel
    go_wp2_with fail
    exact bodyPost_end (v := .tuple #[]) (by simp [results, Tryz.results63, go_sem]) rfl ⟨rfl, rfl⟩

theorem look_Frac (b m : Nat) (lims : Value) (w : World) (h : Blk w b tBook (bookC m lims)) :
    Calls Tryz.prog 79 #[.pointer (some ⟨b, 0, none⟩)] w fun e w' => e = .returned (.bool true) ∧ w = w' := by
  have c := h.cell 6
  simp at c
  clear h
  go_enter Tryz.func79, Tryz.ntmps79
  go_wp2_with fail
  go_loop [3] (fun v => v = .int .i64 0) (fun _ => 0)
  case atStart => exact rfl
  case round =>
    subst hrel
    go_wp2_with fail
    go_ret
    exact ⟨rfl, rfl⟩

theorem fill_Gauss (b m : Nat) (lims : Value) (w : World) (h : Blk w b tBook (bookC m lims)) :
    Calls Tryz.prog 48 #[.pointer (some ⟨b, 0, none⟩)] w fun e w' => e = .returned (.tuple #[]) ∧ w = w' := by
  have c := h.cell 7
  simp at c
  clear h
  go_enter Tryz.func48, Tryz.ntmps48
  go_wp2_with fail
  go_loop [2] (fun v => v = .int .i64 0) (fun _ => 0)
  case atStart => exact rfl
  case round =>
    subst hrel
    go_wp2_with fail
    exact bodyPost_end (v := .tuple #[]) (by simp [results, Tryz.results48, go_sem]) rfl ⟨rfl, rfl⟩

theorem grow_Gauss (b m : Nat) (lims : Value) (w : World) (h : Blk w b tBook (bookC m lims)) :
    Calls Tryz.prog 64 #[.pointer (some ⟨b, 0, none⟩)] w fun e w' => e = .returned (.tuple #[]) ∧ w = w' := by
  have c := h.cell 7
  simp at c
  clear h
  go_enter Tryz.func64, Tryz.ntmps64
  go_wp2_with fail
  go_loop [2] (fun v => v = .int .i64 0) (fun _ => 0)
  case atStart => exact rfl
  case round =>
    subst hrel
    go_wp2_with fail
    exact bodyPost_end (v := .tuple #[]) (by simp [results, Tryz.results64, go_sem]) rfl ⟨rfl, rfl⟩

theorem look_Gauss (b m : Nat) (lims : Value) (w : World) (h : Blk w b tBook (bookC m lims)) :
    Calls Tryz.prog 80 #[.pointer (some ⟨b, 0, none⟩)] w fun e w' => e = .returned (.bool true) ∧ w = w' := by
  have c := h.cell 7
  simp at c
  clear h
  go_enter Tryz.func80, Tryz.ntmps80
  go_wp2_with fail
  go_loop [3] (fun v => v = .int .i64 0) (fun _ => 0)
  case atStart => exact rfl
  case round =>
    subst hrel
    go_wp2_with fail
    go_ret
    exact ⟨rfl, rfl⟩

theorem fill_Ray (b m : Nat) (lims : Value) (w : World) (h : Blk w b tBook (bookC m lims)) :
    Calls Tryz.prog 49 #[.pointer (some ⟨b, 0, none⟩)] w fun e w' => e = .returned (.tuple #[]) ∧ w = w' := by
  have c := h.cell 8
  simp at c
  clear h
  go_enter Tryz.func49, Tryz.ntmps49
  go_wp2_with fail
  go_loop [2] (fun v => v = .int .i64 0) (fun _ => 0)
  case atStart => exact rfl
  case round =>
    subst hrel
    go_wp2_with fail
    exact bodyPost_end (v := .tuple #[]) (by simp [results, Tryz.results49, go_sem]) rfl ⟨rfl, rfl⟩

theorem grow_Ray (b m : Nat) (lims : Value) (w : World) (h : Blk w b tBook (bookC m lims)) :
    Calls Tryz.prog 65 #[.pointer (some ⟨b, 0, none⟩)] w fun e w' => e = .returned (.tuple #[]) ∧ w = w' := by
  have c := h.cell 8
  simp at c
  clear h
  go_enter Tryz.func65, Tryz.ntmps65
  go_wp2_with fail
  go_loop [2] (fun v => v = .int .i64 0) (fun _ => 0)
  case atStart => exact rfl
  case round =>
    subst hrel
    go_wp2_with fail
    exact bodyPost_end (v := .tuple #[]) (by simp [results, Tryz.results65, go_sem]) rfl ⟨rfl, rfl⟩

theorem look_Ray (b m : Nat) (lims : Value) (w : World) (h : Blk w b tBook (bookC m lims)) :
    Calls Tryz.prog 81 #[.pointer (some ⟨b, 0, none⟩)] w fun e w' => e = .returned (.bool true) ∧ w = w' := by
  have c := h.cell 8
  simp at c
  clear h
  go_enter Tryz.func81, Tryz.ntmps81
  go_wp2_with fail
  go_loop [3] (fun v => v = .int .i64 0) (fun _ => 0)
  case atStart => exact rfl
  case round =>
    subst hrel
    go_wp2_with fail
    go_ret
    exact ⟨rfl, rfl⟩

theorem fill_Element (b m : Nat) (lims : Value) (w : World) (h : Blk w b tBook (bookC m lims)) :
    Calls Tryz.prog 50 #[.pointer (some ⟨b, 0, none⟩)] w fun e w' => e = .returned (.tuple #[]) ∧ w = w' := by
  have c := h.cell 9
  simp at c
  clear h
  go_enter Tryz.func50, Tryz.ntmps50
  go_wp2_with fail
  go_loop [2] (fun v => v = .int .i64 0) (fun _ => 0)
  case atStart => exact rfl
  case round =>
    subst hrel
    go_wp2_with fail
    exact bodyPost_end (v := .tuple #[]) (by simp [results, Tryz.results50, go_sem]) rfl ⟨rfl, rfl⟩

theorem grow_Element (b m : Nat) (lims : Value) (w : World) (h : Blk w b tBook (bookC m lims)) :
    Calls Tryz.prog 66 #[.pointer (some ⟨b, 0, none⟩)] w fun e w' => e = .returned (.tuple #[]) ∧ w = w' := by
  have c := h.cell 9
  simp at c
  clear h
  go_enter Tryz.func66, Tryz.ntmps66
  go_wp2_with fail
  go_loop [2] (fun v => v = .int .i64 0) (fun _ => 0)
  case atStart => exact rfl
  case round =>
    subst hrel
    go_wp2_with fail
    exact bodyPost_end (v := .tuple #[]) (by simp [results, Tryz.results66, go_sem]) rfl ⟨rfl, rfl⟩

theorem look_Element (b m : Nat) (lims : Value) (w : World) (h : Blk w b tBook (bookC m lims)) :
    Calls Tryz.prog 82 #[.pointer (some ⟨b, 0, none⟩)] w fun e w' => e = .returned (.bool true) ∧ w = w' := by
  have c := h.cell 9
  simp at c
  clear h
  go_enter Tryz.func82, Tryz.ntmps82
  go_wp2_with fail
  go_loop [3] (fun v => v = .int .i64 0) (fun _ => 0)
  case atStart => exact rfl
  case round =>
    subst hrel
    go_wp2_with fail
    go_ret
    exact ⟨rfl, rfl⟩

theorem fill_Coat (b m : Nat) (lims : Value) (w : World) (h : Blk w b tBook (bookC m lims)) :
    Calls Tryz.prog 51 #[.pointer (some ⟨b, 0, none⟩)] w fun e w' => e = .returned (.tuple #[]) ∧ w = w' := by
  have c := h.cell 10
  simp at c
  clear h
  go_enter Tryz.func51, Tryz.ntmps51
  go_wp2_with fail
  go_loop [2] (fun v => v = .int .i64 0) (fun _ => 0)
  case atStart => exact rfl
  case round =>
    subst hrel
    go_wp2_with fail
    exact bodyPost_end (v := .tuple #[]) (by simp [results, Tryz.results51, go_sem]) rfl ⟨rfl, rfl⟩

theorem grow_Coat (b m : Nat) (lims : Value) (w : World) (h : Blk w b tBook (bookC m lims)) :
    Calls Tryz.prog 67 #[.pointer (some ⟨b, 0, none⟩)] w fun e w' => e = .returned (.tuple #[]) ∧ w = w' := by
  have c := h.cell 10
  simp at c
  clear h
  go_enter Tryz.func67, Tryz.ntmps67
  go_wp2_with fail
  go_loop [2] (fun v => v = .int .i64 0) (fun _ => 0)
  case atStart => exact rfl
  case round =>
    subst hrel
    go_wp2_with fail
    exact bodyPost_end (v := .tuple #[]) (by simp [results, Tryz.results67, go_sem]) rfl ⟨rfl, rfl⟩

theorem look_Coat (b m : Nat) (lims : Value) (w : World) (h : Blk w b tBook (bookC m lims)) :
    Calls Tryz.prog 83 #[.pointer (some ⟨b, 0, none⟩)] w fun e w' => e = .returned (.bool true) ∧ w = w' := by
  have c := h.cell 10
  simp at c
  clear h
  go_enter Tryz.func83, Tryz.ntmps83
  go_wp2_with fail
  go_loop [3] (fun v => v = .int .i64 0) (fun _ => 0)
  case atStart => exact rfl
  case round =>
    subst hrel
    go_wp2_with fail
    go_ret
    exact ⟨rfl, rfl⟩

theorem fill_Disc (b m : Nat) (lims : Value) (w : World) (h : Blk w b tBook (bookC m lims)) :
    Calls Tryz.prog 52 #[.pointer (some ⟨b, 0, none⟩)] w fun e w' => e = .returned (.tuple #[]) ∧ w = w' := by
  have c := h.cell 11
  simp at c
  clear h
  go_enter Tryz.func52, Tryz.ntmps52
  go_wp2_with fail
  go_loop [2] (fun v => v = .int .i64 0) (fun _ => 0)
  case atStart => exact rfl
  case round =>
    subst hrel
    go_wp2_with fail
    exact bodyPost_end (v := .tuple #[]) (by simp [results, Tryz.results52, go_sem]) rfl ⟨rfl, rfl⟩

theorem grow_Disc (b m : Nat) (lims : Value) (w : World) (h : Blk w b tBook (bookC m lims)) :
    Calls Tryz.prog 68 #[.pointer (some ⟨b, 0, none⟩)] w fun e w' => e = .returned (.tuple #[]) ∧ w = w' := by
  have c := h.cell 11
  simp at c
  clear h
  go_enter Tryz.func68, Tryz.ntmps68
  go_wp2_with fail
  go_loop [2] (fun v => v = .int .i64 0) (fun _ => 0)
  case atStart => exact rfl
  case round =>
    subst hrel
    go_wp2_with fail
    exact bodyPost_end (v := .tuple #[]) (by simp [results, Tryz.results68, go_sem]) rfl ⟨rfl, rfl⟩

theorem look_Disc (b m : Nat) (lims : Value) (w : World) (h : Blk w b tBook (bookC m lims)) :
    Calls Tryz.prog 84 #[.pointer (some ⟨b, 0, none⟩)] w fun e w' => e = .returned (.bool true) ∧ w = w' := by
  have c := h.cell 11
  simp at c
  clear h
  go_enter Tryz.func84, Tryz.ntmps84
  go_wp2_with fail
  go_loop [3] (fun v => v = .int .i64 0) (fun _ => 0)
  case atStart => exact rfl
  case round =>
    subst hrel
    go_wp2_with fail
    go_ret
    exact ⟨rfl, rfl⟩

theorem fill_Part (b m : Nat) (lims : Value) (w : World) (h : Blk w b tBook (bookC m lims)) :
    Calls Tryz.prog 53 #[.pointer (some ⟨b, 0, none⟩)] w fun e w' => e = .returned (.tuple #[]) ∧ w = w' := by
  have c := h.cell 12
  simp at c
  clear h
  go_enter Tryz.func53, Tryz.ntmps53
  go_wp2_with fail
  go_loop [2] (fun v => v = .int .i64 0) (fun _ => 0)
  case atStart => exact rfl
  case round =>
    subst hrel
    go_wp2_with fail
    exact bodyPost_end (v := .tuple #[]) (by simp [results, Tryz.results53, go_sem]) rfl ⟨rfl, rfl⟩

theorem grow_Part (b m : Nat) (lims : Value) (w : World) (h : Blk w b tBook (bookC m lims)) :
    Calls Tryz.prog 69 #[.pointer (some ⟨b, 0, none⟩)] w fun e w' => e = .returned (.tuple #[]) ∧ w = w' := by
  have c := h.cell 12
  simp at c
  clear h
  go_enter Tryz.func69, Tryz.ntmps69
  go_wp2_with fail
  go_loop [2] (fun v => v = .int .i64 0) (fun _ => 0)
  case atStart => exact rfl
  case round =>
    subst hrel
    go_wp2_with fail
    exact bodyPost_end (v := .tuple #[]) (by simp [results, Tryz.results69, go_sem]) rfl ⟨rfl, rfl⟩

theorem look_Part (b m : Nat) (lims : Value) (w : World) (h : Blk w b tBook (bookC m lims)) :
    Calls Tryz.prog 85 #[.pointer (some ⟨b, 0, none⟩)] w fun e w' => e = .returned (.bool true) ∧ w = w' := by
  have c := h.cell 12
  simp at c
  clear h
  go_enter Tryz.func85, Tryz.ntmps85
  go_wp2_with fail
  go_loop [3] (fun v => v = .int .i64 0) (fun _ => 0)
  case atStart => exact rfl
  case round =>
    subst hrel
    go_wp2_with fail
    go_ret
    exact ⟨rfl, rfl⟩

theorem fill_Def (b m : Nat) (lims : Value) (w : World) (h : Blk w b tBook (bookC m lims)) :
    Calls Tryz.prog 54 #[.pointer (some ⟨b, 0, none⟩)] w fun e w' => e = .returned (.tuple #[]) ∧ w = w' := by
  have c := h.cell 13
  simp at c
  clear h
  go_enter Tryz.func54, Tryz.ntmps54
  go_wp2_with fail
  go_loop [2] (fun v => v = .int .i64 0) (fun _ => 0)
  case atStart => exact rfl
  case round =>
    subst hrel
    go_wp2_with fail
    exact bodyPost_end (v := .tuple #[]) (by simp [results, Tryz.results54, go_sem]) rfl ⟨rfl, rfl⟩

theorem grow_Def (b m : Nat) (lims : Value) (w : World) (h : Blk w b tBook (bookC m lims)) :
    Calls Tryz.prog 70 #[.pointer (some ⟨b, 0, none⟩)] w fun e w' => e = .returned (.tuple #[]) ∧ w = w' := by
  have c := h.cell 13
  simp at c
  clear h
  go_enter Tryz.func70, Tryz.ntmps70
  go_wp2_with fail
  go_loop [2] (fun v => v = .int .i64 0) (fun _ => 0)
  case atStart => exact rfl
  case round =>
    subst hrel
    go_wp2_with fail
    exact bodyPost_end (v := .tuple #[]) (by simp [results, Tryz.results70, go_sem]) rfl ⟨rfl, rfl⟩

theorem look_Def (b m : Nat) (lims : Value) (w : World) (h : Blk w b tBook (bookC m lims)) :
    Calls Tryz.prog 86 #[.pointer (some ⟨b, 0, none⟩)] w fun e w' => e = .returned (.bool true) ∧ w = w' := by
  have c := h.cell 13
  simp at c
  clear h
  go_enter Tryz.func86, Tryz.ntmps86
  go_wp2_with fail
  go_loop [3] (fun v => v = .int .i64 0) (fun _ => 0)
  case atStart => exact rfl
  case round =>
    subst hrel
    go_wp2_with fail
    go_ret
    exact ⟨rfl, rfl⟩

theorem fill_Item (b m : Nat) (lims : Value) (w : World) (h : Blk w b tBook (bookC m lims)) :
    Calls Tryz.prog 55 #[.pointer (some ⟨b, 0, none⟩)] w fun e w' => e = .returned (.tuple #[]) ∧ w = w' := by
  have c := h.cell 14
  simp at c
  clear h
  go_enter Tryz.func55, Tryz.ntmps55
  go_wp2_with fail
  go_loop [2] (fun v => v = .int .i64 0) (fun _ => 0)
  case atStart => exact rfl
  case round =>
    subst hrel
    go_wp2_with fail
    exact bodyPost_end (v := .tuple #[]) (by simp [results, Tryz.results55, go_sem]) rfl ⟨rfl, rfl⟩

theorem grow_Item (b m : Nat) (lims : Value) (w : World) (h : Blk w b tBook (bookC m lims)) :
    Calls Tryz.prog 71 #[.pointer (some ⟨b, 0, none⟩)] w fun e w' => e = .returned (.tuple #[]) ∧ w = w' := by
  have c := h.cell 14
  simp at c
  clear h
  go_enter Tryz.func71, Tryz.ntmps71
  go_wp2_with fail
  go_loop [2] (fun v => v = .int .i64 0) (fun _ => 0)
  case atStart => exact rfl
  case round =>
    subst hrel
    go_wp2_with fail
    exact bodyPost_end (v := .tuple #[]) (by simp [results, Tryz.results71, go_sem]) rfl ⟨rfl, rfl⟩

theorem look_Item (b m : Nat) (lims : Value) (w : World) (h : Blk w b tBook (bookC m lims)) :
    Calls Tryz.prog 87 #[.pointer (some ⟨b, 0, none⟩)] w fun e w' => e = .returned (.bool true) ∧ w = w' := by
  have c := h.cell 14
  simp at c
  clear h
  go_enter Tryz.func87, Tryz.ntmps87
  go_wp2_with fail
  go_loop [3] (fun v => v = .int .i64 0) (fun _ => 0)
  case atStart => exact rfl
  case round =>
    subst hrel
    go_wp2_with fail
    go_ret
    exact ⟨rfl, rfl⟩

theorem fill_Act (b m : Nat) (lims : Value) (w : World) (h : Blk w b tBook (bookC m lims)) :
    Calls Tryz.prog 56 #[.pointer (some ⟨b, 0, none⟩)] w fun e w' => e = .returned (.tuple #[]) ∧ w = w' := by
  have c := h.cell 15
  simp at c
  clear h
  go_enter Tryz.func56, Tryz.ntmps56
  go_wp2_with fail
  go_loop [2] (fun v => v = .int .i64 0) (fun _ => 0)
  case atStart => exact rfl
  case round =>
    subst hrel
    go_wp2_with fail
    exact bodyPost_end (v := .tuple #[]) (by simp [results, Tryz.results56, go_sem]) rfl ⟨rfl, rfl⟩

theorem grow_Act (b m : Nat) (lims : Value) (w : World) (h : Blk w b tBook (bookC m lims)) :
    Calls Tryz.prog 72 #[.pointer (some ⟨b, 0, none⟩)] w fun e w' => e = .returned (.tuple #[]) ∧ w = w' := by
  have c := h.cell 15
  simp at c
  clear h
  go_enter Tryz.func72, Tryz.ntmps72
  go_wp2_with fail
  go_loop [2] (fun v => v = .int .i64 0) (fun _ => 0)
  case atStart => exact rfl
  case round =>
    subst hrel
    go_wp2_with fail
    exact bodyPost_end (v := .tuple #[]) (by simp [results, Tryz.results72, go_sem]) rfl ⟨rfl, rfl⟩

theorem look_Act (b m : Nat) (lims : Value) (w : World) (h : Blk w b tBook (bookC m lims)) :
    Calls Tryz.prog 88 #[.pointer (some ⟨b, 0, none⟩)] w fun e w' => e = .returned (.bool true) ∧ w = w' := by
  have c := h.cell 15
  simp at c
  clear h
  go_enter Tryz.func88, Tryz.ntmps88
  go_wp2_with fail
  go_loop [3] (fun v => v = .int .i64 0) (fun _ => 0)
  case atStart => exact rfl
  case round =>
    subst hrel
    go_wp2_with fail
    go_ret
    exact ⟨rfl, rfl⟩

theorem fill_Reply (b m : Nat) (lims : Value) (w : World) (h : Blk w b tBook (bookC m lims)) :
    Calls Tryz.prog 57 #[.pointer (some ⟨b, 0, none⟩)] w fun e w' => e = .returned (.tuple #[]) ∧ w = w' := by
  have c := h.cell 16
  simp at c
  clear h
  go_enter Tryz.func57, Tryz.ntmps57
  go_wp2_with fail
  go_loop [2] (fun v => v = .int .i64 0) (fun _ => 0)
  case atStart => exact rfl
  case round =>
    subst hrel
    go_wp2_with fail
    exact bodyPost_end (v := .tuple #[]) (by simp [results, Tryz.results57, go_sem]) rfl ⟨rfl, rfl⟩

theorem grow_Reply (b m : Nat) (lims : Value) (w : World) (h : Blk w b tBook (bookC m lims)) :
    Calls Tryz.prog 73 #[.pointer (some ⟨b, 0, none⟩)] w fun e w' => e = .returned (.tuple #[]) ∧ w = w' := by
  have c := h.cell 16
  simp at c
  clear h
  go_enter Tryz.func73, Tryz.ntmps73
  go_wp2_with fail
  go_loop [2] (fun v => v = .int .i64 0) (fun _ => 0)
  case atStart => exact rfl
  case round =>
    subst hrel
    go_wp2_with fail
    exact bodyPost_end (v := .tuple #[]) (by simp [results, Tryz.results73, go_sem]) rfl ⟨rfl, rfl⟩

theorem look_Reply (b m : Nat) (lims : Value) (w : World) (h : Blk w b tBook (bookC m lims)) :
    Calls Tryz.prog 89 #[.pointer (some ⟨b, 0, none⟩)] w fun e w' => e = .returned (.bool true) ∧ w = w' := by
  have c := h.cell 16
  simp at c
  clear h
  go_enter Tryz.func89, Tryz.ntmps89
  go_wp2_with fail
  go_loop [3] (fun v => v = .int .i64 0) (fun _ => 0)
  case atStart => exact rfl
  case round =>
    subst hrel
    go_wp2_with fail
    go_ret
    exact ⟨rfl, rfl⟩
end Go.Proofs.YtkncbenhfcpgkaaGreatDoor
