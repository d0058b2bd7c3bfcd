/- Several texts in one: Trees, Book, Keep, KeepFar. -/
import Derived.Test.YtipmkkobdbgphaaGreatDoorPt23
import Derived.Test.YtipmkkobdbgphaaGreatDoorPt17
import Derived.Test.YtipmkkobdbgphaaGreatDoorPt14
import Derived.Test.YtipmkkobdbgphaaGreatDoorPt15
import Derived.Test.YtipmkkobdbgphaaGreatDoorPtHd
set_option maxRecDepth 100000
set_option maxHeartbeats 8000000
/- Plus, Minus, Times, Over, Cmp of package ratio. (Written by wip/frac/gentrees.py.) -/
namespace Go.Proofs.YtipmkkobdbgphaaGreatDoor
open Go.RowKit
def addN (n d m f : Int) : Int := lowN (n * f + m * d) (d * f)
def addD (n d m f : Int) : Int := lowD (n * f + m * d) (d * f)
def subN (n d m f : Int) : Int := lowN (n * f - m * d) (d * f)
def subD (n d m f : Int) : Int := lowD (n * f - m * d) (d * f)
def mulN (n d m f : Int) : Int := lowN (n * m) (d * f)
def mulD (n d m f : Int) : Int := lowD (n * m) (d * f)
def quoN (n d m f : Int) : Int := lowN (n * f) (d * m)
def quoD (n d m f : Int) : Int := lowD (n * f) (d * m)

/- A Book that holds lists of limbs: what lies in memory; keepLimb. -/

def markU (j : Nat) : Value := .int .u32 ((100001 + j : Nat) : Int)
abbrev nilS : Value := .slice none 0 0
abbrev bookC (m : Nat) (lims : Value) : Array Value := #[.int .i64 (m : Int), lims, nilS, nilS, nilS, nilS, nilS, nilS, nilS, nilS, nilS, nilS, nilS, nilS, nilS, nilS, nilS]
abbrev tBook : TypeId := 55
abbrev tHeld : TypeId := 118
abbrev tLimb : TypeId := 104
structure HeldArr (w : World) (g0 m : Nat) (l long : Nat → Value) : Prop where
  cells : ∃ cs, Blk w g0 tHeld cs ∧ ∀ j, j < m → cs[j * 3]? = some (l j) ∧ cs[j * 3 + 1]? = some (long j) ∧ cs[j * 3 + 2]? = some (.int .i64 ((j + 1 : Nat) : Int))
def updV (f : Nat → Value) (i : Nat) (v : Value) : Nat → Value := fun j => if j = i then v else f j
theorem updV_same (f : Nat → Value) (i : Nat) (v : Value) : updV f i v i = v := by simp [updV]
theorem updV_ne (f : Nat → Value) {i j : Nat} (v : Value) (h : j ≠ i) : updV f i v j = f j := by simp [updV, h]
def updL (f : Nat → List Value) (i : Nat) (v : List Value) : Nat → List Value := fun j => if j = i then v else f j
theorem updL_same (f : Nat → List Value) (i : Nat) (v : List Value) : updL f i v i = v := by simp [updL]
theorem updL_ne (f : Nat → List Value) {i j : Nat} (v : List Value) (h : j ≠ i) : updL f i v j = f j := by simp [updL, h]

theorem HeldArr.below {w w' : World} {g0 m : Nat} {l long : Nat → Value} (h : HeldArr w g0 m l long) (hb : Below w.heap.size w w') : HeldArr w' g0 m l long := by
  obtain ⟨cs, h1, h2⟩ := h.cells
  exact ⟨cs, h1.below hb h1.lt, h2⟩
theorem HeldArr.lt {w : World} {g0 m : Nat} {l long : Nat → Value} (h : HeldArr w g0 m l long) : g0 < w.heap.size := by
  obtain ⟨cs, h1, _⟩ := h.cells
  exact h1.lt
theorem HeldArr.far {w : World} {g0 m g : Nat} {l long : Nat → Value} (h : HeldArr w g0 m l long) (hn : g0 ≠ g) (k : Nat) (u : Value) : HeldArr (w.setCell ⟨g, k, none⟩ u) g0 m l long := by
  obtain ⟨cs, h1, h2⟩ := h.cells
  exact ⟨cs, h1.far (p := ⟨g, k, none⟩) hn u, h2⟩
theorem HeldArr.kept {w w' : World} {g0 m : Nat} {l long : Nat → Value} (h : HeldArr w g0 m l long) {row : Option Nat} (hg : w.grownBy w' row) (hn : some g0 ≠ row) : HeldArr w' g0 m l long := by
  obtain ⟨cs, h1, h2⟩ := h.cells
  exact ⟨cs, (hg.block g0 h1.lt hn).trans h1, h2⟩
theorem HeldArr.set {w : World} {g0 m : Nat} {l long : Nat → Value} (h : HeldArr w g0 m l long) {i : Nat} (hi : i < m) (v : Value) : HeldArr (w.setCell ⟨g0, i * 3 + 1, none⟩ v) g0 m l (updV long i v) := by
  obtain ⟨cs, h1, h2⟩ := h.cells
  refine ⟨cs.setIfInBounds (i * 3 + 1) v, h1.set_ (i * 3 + 1) v, fun j hj => ?_⟩
  obtain ⟨a1, a2, a3⟩ := h2 j hj
  refine ⟨?_, ?_, ?_⟩
  · rw [Array.getElem?_setIfInBounds_ne (by omega)]; exact a1
  · by_cases e : j = i
    · subst e
      have hs : j * 3 + 1 < cs.size := (Array.getElem?_eq_some_iff.1 a2).1
      rw [updV_same]; simp [hs]
    · rw [Array.getElem?_setIfInBounds_ne (by omega), updV_ne _ _ e]; exact a2
  · rw [Array.getElem?_setIfInBounds_ne (by omega)]; exact a3
theorem HeldArr.at_ {w : World} {g0 m : Nat} {l long : Nat → Value} (h : HeldArr w g0 m l long) {i : Nat} (hi : i < m) :
    w.cell? ⟨g0, i * 3, none⟩ = some (l i) ∧ w.cell? ⟨g0, i * 3 + 1, none⟩ = some (long i) ∧ w.cell? ⟨g0, i * 3 + 2, none⟩ = some (.int .i64 ((i + 1 : Nat) : Int)) ∧ w.frozen? ⟨g0, i * 3 + 1, none⟩ = false := by
  obtain ⟨cs, h1, h2⟩ := h.cells
  obtain ⟨a1, a2, a3⟩ := h2 i hi
  exact ⟨by rw [h1.cell]; exact a1, by rw [h1.cell]; exact a2, by rw [h1.cell]; exact a3, h1.frozen _⟩

theorem own_set {w : World} {base : Nat} {e : TypeId} {g n c : Nat} {xs : List Value} (h : w.ownsRow base e 1 (.slice (some ⟨g, 0, none⟩) n c) n xs) {k : Nat} (hk : k < n) (u : Value) : (w.setCell ⟨g, k, none⟩ u).ownsRow base e 1 (.slice (some ⟨g, 0, none⟩) n c) n (xs.set k u) := by
  refine ⟨by rw [List.length_set]; exact h.1, ?_⟩
  rcases h.2 with ⟨h1, h2⟩ | ⟨g', cap, cur, h1, h2, h3, h4, h5, h6, h7⟩
  · omega
  · injection h1 with a1 a2 a3
    injection a1 with a1
    injection a1 with a1
    subst a1 a3
    refine .inr ⟨g, c, cur.setIfInBounds k u, rfl, h2, Blk.set_ (cs := cur) (t := e) h3 k u, h4, h5, by simpa using h6, ?_⟩
    rw [← h7]
    simp [List.take_set]
theorem own_cut {w : World} {base : Nat} {e : TypeId} {A : Option Addr} {n c k : Nat} {xs : List Value} (h : w.ownsRow base e 1 (.slice A n c) n xs) (hk : k ≤ n) : w.ownsRow base e 1 (.slice A k c) k (xs.take k) := by
  rcases h.2 with ⟨h1, h2⟩ | ⟨g, cap, cur, h1, h2, h3, h4, h5, h6, h7⟩
  · injection h1 with a1 a2 a3
    subst a1 a3
    have : k = 0 := by omega
    subst this
    exact ⟨by simp, .inl ⟨rfl, rfl⟩⟩
  · injection h1 with a1 a2 a3
    subst a1 a3
    have hl := h.1
    refine ⟨by rw [List.length_take]; omega, .inr ⟨g, c, cur, rfl, h2, h3, by omega, h5, h6, ?_⟩⟩
    rw [← h7, List.take_take, Nat.mul_one, Nat.mul_one, Nat.min_eq_left (by omega)]

structure Plain (b g0 m B0 : Nat) (l : Nat → Value) (n : Nat → Nat) : Prop where
  hb : B0 ≤ b
  hg : b < g0
  hm : m ≤ 1000
  hn : ∀ j, j < m → n j ≤ 1073741824
  under : ∀ j, j < m → ∀ g, (l j).ownBlock = some g → g ≠ b ∧ g ≠ g0
  apart : ∀ j k, j < m → k < m → j ≠ k → ∀ g, (l j).ownBlock = some g → (l k).ownBlock ≠ some g
structure Shelf (w0 w : World) (b g0 cap m B0 : Nat) (l long : Nat → Value) (n : Nat → Nat) (X : Nat → List Value) : Prop where
  book : Blk w b tBook (bookC m (.slice (some ⟨g0, 0, none⟩) m cap))
  arr : HeldArr w g0 m l long
  rows : ∀ j, j < m → w.ownsRow B0 tLimb 1 (l j) (n j) (X j)
  low : Below B0 w0 w
section
variable {w0 w w' : World} {b g0 cap m B0 : Nat} {l long : Nat → Value} {n : Nat → Nat} {X : Nat → List Value}
theorem Shelf.below (h : Shelf w0 w b g0 cap m B0 l long n X) (p : Plain b g0 m B0 l n) (hb : Below w.heap.size w w') : Shelf w0 w' b g0 cap m B0 l long n X :=
  ⟨h.book.below hb h.book.lt, h.arr.below hb, fun j hj => own_below (h.rows j hj) hb, h.low.trans (hb.mono (by have := h.book.lt; have := p.hb; omega))⟩
theorem Shelf.alloc (h : Shelf w0 w b g0 cap m B0 l long n X) (p : Plain b g0 m B0 l n) (o : Obj) : Shelf w0 (w.alloc o) b g0 cap m B0 l long n X := h.below p ((Below.refl _ _).alloc (Nat.le_refl _) o)
theorem Shelf.drewN (h : Shelf w0 w b g0 cap m B0 l long n X) (k : Nat) : Shelf w0 (w.drewN k) b g0 cap m B0 l long n X :=
  ⟨h.book.drewN k, by obtain ⟨cs, h1, h2⟩ := h.arr.cells; exact ⟨cs, h1.drewN k, h2⟩, h.rows, below_drewN h.low k⟩
theorem Shelf.write (h : Shelf w0 w b g0 cap m B0 l long n X) (p : Plain b g0 m B0 l n) {i g c k : Nat} (hi : i < m) (hl : l i = .slice (some ⟨g, 0, none⟩) (n i) c) (hk : k < n i) (u : Value) :
    Shelf w0 (w.setCell ⟨g, k, none⟩ u) b g0 cap m B0 l long n (updL X i ((X i).set k u)) := by
  have hgb := p.under i hi g (by rw [hl]; rfl)
  have hB : B0 ≤ g := ((h.rows i hi).lt g (by rw [hl]; rfl)).1
  refine ⟨h.book.far (p := ⟨g, k, none⟩) (by have : b ≠ g := by omega
                                             exact this) u, h.arr.far (by omega) k u, fun j hj => ?_, h.low.setCell (p := ⟨g, k, none⟩) hB u⟩
  by_cases e : j = i
  · subst e
    rw [updL_same, hl]
    have := h.rows j hj
    rw [hl] at this
    exact own_set this hk u
  · rw [updL_ne _ _ e]
    exact ownsRow_setCell_other (h.rows j hj) (p.apart i j hi hj (Ne.symm e) g (by rw [hl]; rfl)) u
theorem Shelf.more (h : Shelf w0 w b g0 cap m B0 l long n X) (p : Plain b g0 m B0 l n) {i : Nat} (hi : i < m) (v : Value) : Shelf w0 (w.setCell ⟨g0, i * 3 + 1, none⟩ v) b g0 cap m B0 l (updV long i v) n X := by
  refine ⟨h.book.far (p := ⟨g0, i * 3 + 1, none⟩) (by have := p.hg; have : b ≠ g0 := by omega
                                                      exact this) v, h.arr.set hi v, fun j hj => ?_, h.low.setCell (p := ⟨g0, i * 3 + 1, none⟩) (by have := p.hg; have := p.hb; show B0 ≤ g0; omega) v⟩
  exact ownsRow_setCell_other (h.rows j hj) (fun e => (p.under j hj g0 e).2 rfl) v
end

def heldCells (l : Nat → Value) (m : Nat) : List Value := (List.range m).flatMap fun j => [l j, nilS, .int .i64 ((j + 1 : Nat) : Int)]
theorem heldCells_length (l : Nat → Value) (m : Nat) : (heldCells l m).length = m * 3 := by
  unfold heldCells
  induction m with
  | zero => rfl
  | succ m ih => rw [List.range_succ, List.flatMap_append, List.length_append, ih]; simp; omega
theorem heldCells_more (l : Nat → Value) (m : Nat) (v : Value) : heldCells (updV l m v) (m + 1) = heldCells l m ++ [v, nilS, .int .i64 ((m + 1 : Nat) : Int)] := by
  unfold heldCells
  rw [List.range_succ, List.flatMap_append]
  congr 1
  · refine congrArg List.flatten (List.map_congr_left fun j hj => ?_)
    rw [updV_ne _ _ (by have := List.mem_range.1 hj; omega)]
  · simp [updV_same]
theorem heldCells_at (l : Nat → Value) (m j : Nat) (hj : j < m) : (heldCells l m)[j * 3]? = some (l j) ∧ (heldCells l m)[j * 3 + 1]? = some nilS ∧ (heldCells l m)[j * 3 + 2]? = some (.int .i64 ((j + 1 : Nat) : Int)) := by
  induction m with
  | zero => omega
  | succ m ih =>
    have e : heldCells l (m + 1) = heldCells l m ++ [l m, nilS, .int .i64 ((m + 1 : Nat) : Int)] := by
      have := heldCells_more l m (l m)
      rw [← this]
      congr 1
      funext k
      by_cases h : k = m
      · subst h; rw [updV_same]
      · rw [updV_ne _ _ h]
    have hl := heldCells_length l m
    rw [e]
    by_cases h : j = m
    · subst h
      refine ⟨?_, ?_, ?_⟩
      · rw [List.getElem?_append_right (by omega), hl]; simp
      · rw [List.getElem?_append_right (by omega), hl, show j * 3 + 1 - j * 3 = 1 by omega]; rfl
      · rw [List.getElem?_append_right (by omega), hl, show j * 3 + 2 - j * 3 = 2 by omega]; rfl
    · obtain ⟨a1, a2, a3⟩ := ih (by omega)
      refine ⟨?_, ?_, ?_⟩
      · rw [List.getElem?_append_left (by omega)]; exact a1
      · rw [List.getElem?_append_left (by omega)]; exact a2
      · rw [List.getElem?_append_left (by omega)]; exact a3
structure Keep (w : World) (b m : Nat) (l : Nat → Value) (lims : Value) : Prop where
  book : Blk w b tBook (bookC m lims)
  row : w.ownsRow (b + 1) tHeld 3 lims m (heldCells l m)
/- keepLimb: a list is put into a Book. -/
theorem heldInfo : (Tryz.prog.info? 118).map (fun i => (i.zero, i.size, i.bytes)) = some (some (.agg #[nilS, nilS, .int .i64 0]), 3, 56) := by kernel_rfl

theorem keep_limb (b m : Nat) (l : Nat → Value) (lims : Value) (vA : Option Addr) (vn vc : Nat) (hm : m ≤ 1000) (w : World) (h : Keep w b m l lims) :
    Calls Tryz.prog 146 #[.pointer (some ⟨b, 0, none⟩), .slice vA vn vc] w fun e w' => e = .returned (.tuple #[]) ∧ ∃ lims', Keep w' b (m + 1) (updV l m (.slice vA vn vc)) lims' ∧ Below b w w' := by
  obtain ⟨i0, hi, hz0, hz1, hz2⟩ := info_parts heldInfo
  have hb := h.book
  have hrow := h.row
  have hlt := hb.lt
  have c0 := hb.cell 0
  have f0 := hb.frozen 0
  simp at c0
  have hadd : IntKind.i64.wrap ((m : Int) + 1) = ((m + 1 : Nat) : Int) := by rw [IntWalk.i64_in _ (by omega)]; omega
  clear h
  have HB := Hd hb
  have HR := Hd hrow
  clear hb hrow
  go_enter Tryz.func146, Tryz.ntmps146
  go_wp2_with fail
  have hW : Blk (w.setCell ⟨b, 0, none⟩ (.int .i64 ((m : Int) + 1))) b tBook #[.int .i64 ((m : Int) + 1), lims, nilS, nilS, nilS, nilS, nilS, nilS, nilS, nilS, nilS, nilS, nilS, nilS, nilS, nilS, nilS] := HB.out.set_ 0 _
  have hrW := ownsRow_setCell_below HR.out (a := ⟨b, 0, none⟩) (Nat.lt_succ_self b) (.int .i64 ((m : Int) + 1))
  have hbW : Below b w (w.setCell ⟨b, 0, none⟩ (.int .i64 ((m : Int) + 1))) := (Below.refl b w).setCell (p := ⟨b, 0, none⟩) (Nat.le_refl _) _
  obtain ⟨W, E⟩ : ∃ W, W = w.setCell ⟨b, 0, none⟩ (.int .i64 ((m : Int) + 1)) := ⟨_, rfl⟩
  rw [← E] at hW hrW hbW ⊢
  clear E HB HR c0 f0
  have hltW := hW.lt
  have HW := Hd hW
  have HR := Hd hrW
  have HB := Hd hbW
  clear hW hrW hbW hadd
  refine wp_region_stepsB [.val (.pointer (some ⟨b, 0, none⟩)), .val (.pointer (some ⟨b, 0, none⟩)), .val (.pointer (some ⟨b, 0, none⟩)), .val (.pointer (some ⟨b, 1, none⟩)), .val lims, .val (.slice vA vn vc), .val (.pointer (some ⟨b, 0, none⟩)), .val (.pointer (some ⟨b, 0, none⟩)), .val (.pointer (some ⟨b, 0, none⟩)), .val (.int .i64 ((m : Int) + 1)), .val (.agg #[.slice vA vn vc, nilS, .int .i64 ((m : Int) + 1)]), .step, .step, .step, .step, .step] 4 5 (b + 1) W (by omega)
    (fun us V => match us with
      | [] => V.ownsRow (b + 1) tHeld 3 lims m (heldCells l m)
      | [u0] => V.ownsRow (b + 1) tHeld 3 lims m (heldCells l m) ∧ ∃ g, u0 = .slice (some ⟨g, 0, none⟩) 1 1 ∧ Reads V V.heap.size 3 (some ⟨g, 0, none⟩) 1 [.slice vA vn vc, nilS, .int .i64 ((m : Int) + 1)]
      | [_, u1] => V.ownsRow (b + 1) tHeld 3 u1 (m + 1) (heldCells (updV l m (.slice vA vn vc)) (m + 1))
      | [_, u1, u2] => u2 = .pointer (some ⟨b, 0, none⟩) ∧ V.ownsRow (b + 1) tHeld 3 u1 (m + 1) (heldCells (updV l m (.slice vA vn vc)) (m + 1))
      | [_, u1, _, u3] => u3 = .pointer (some ⟨b, 1, none⟩) ∧ V.ownsRow (b + 1) tHeld 3 u1 (m + 1) (heldCells (updV l m (.slice vA vn vc)) (m + 1))
      | _ => False)
    (fun _ V => ∃ lims', Keep V b (m + 1) (updV l m (.slice vA vn vc)) lims' ∧ Below b w V)
    _ mixedOrders2 (by kernel_rfl) (by kernel_rfl) (by kernel_rfl) (by kernel_rfl) (by kernel_rfl) (by kernel_rfl) (by kernel_rfl) (by kernel_rfl) (by kernel_rfl) rfl ?_ (Below.refl _ _) HR.out.drew ?_ ?_ ?_
  · intro us V V' hg hb
    match us, hg with
    | [], hg => exact own_below hg hb
    | [u0], ⟨h1, g, h2, h3⟩ => exact ⟨own_below h1 hb, g, h2, (h3.below hb).more hb.size⟩
    | [_, u1], hg => exact own_below hg hb
    | [_, u1, u2], hg => exact ⟨hg.1, own_below hg.2 hb⟩
    | [_, u1, u2, u3], hg => exact ⟨hg.1, own_below hg.2 hb⟩
  · simp [ValsOk, chainAct, fill, pairs, valAt]
    repeat' apply And.intro
    all_goals
      intro V hV
      have hx := HW.out.below hV (Nat.lt_succ_self b)
      have c0 := hx.cell 0
      have c1 := hx.cell 1
      simp at c0 c1
      clear hV hx
      go_simp
      try exact Below.refl _ _
  · simp [StepsOk, chainAct, fill, pairs, valAt, stepNo, List.filter, Stp.isStep]
    refine ⟨fun V hV hr => ?_, fun u0 => ⟨fun V hV hr g hu hrd => ?_, fun u1 => ⟨fun V hV hr => ?_, fun u2 => ⟨fun V hV hu2 hr => ?_, fun u3 V hV hu3 hr => ?_⟩⟩⟩⟩
    · go_simp
      exact ⟨hV.alloc (by have := hV.size; omega) _, own_below hr ((Below.refl _ _).alloc (Nat.le_refl _) _), Reads.new1 V _ 3 _ rfl⟩
    · subst hu
      have hsz := hV.size
      refine wp_append_any V (.tmp 15) (.tmp 22) _ rfl (b + 1) tHeld i0 _ 3 56 Tryz.underlying38 hi hz0 hz1 hz2 rfl (by omega) lims m (heldCells l m) rfl hr V.heap.size (some ⟨g, 0, none⟩) 1 1 [.slice vA vn vc, nilS, .int .i64 ((m : Int) + 1)] rfl hrd (by simp [Value.oneCell']) (by unfold maxLen; omega) (by omega) (by omega) ?_
      intro v' w' ho hg hat
      refine ⟨v', rfl, hV.grown hg (by omega) (fun k hk => (hr.lt k hk).1), ?_⟩
      rw [heldCells_more, show ((m + 1 : Nat) : Int) = (m : Int) + 1 by omega]
      exact ho
    · go_simp
      try exact ⟨hV, hr⟩
    · subst hu2
      go_simp
      try exact ⟨hV, hr⟩
    · subst hu3
      obtain ⟨A1, k1, rfl⟩ := own_form (by omega) hr
      have hx := HW.out.below hV (Nat.lt_succ_self b)
      have c1 := hx.cell 1
      have f1 := hx.frozen 1
      simp at c1
      go_simp
      refine ⟨⟨.slice A1 (m + 1) k1, ?_, ?_⟩, (HB.out.trans (hV.mono (Nat.le_succ b))).setCell (p := ⟨b, 1, none⟩) (Nat.le_refl _) _⟩
      · have := hx.set_ 1 (.slice A1 (m + 1) k1)
        exact this
      · exact ownsRow_setCell_below hr (a := ⟨b, 1, none⟩) (Nat.lt_succ_self b) _
  · intro us V hus hF
    simp only [show ¬ (5 ≤ 4) by decide, if_false] at hF
    have HF := Hd hF
    obtain ⟨u0, u1, u2, u3, u4, rfl⟩ : ∃ u0 u1 u2 u3 u4, us = [u0, u1, u2, u3, u4] := by
      match us, hus with
      | [u0, u1, u2, u3, u4], _ => exact ⟨u0, u1, u2, u3, u4, rfl⟩
    simp [chainAct, fill, pairs, valAt, stepNo, List.filter, Stp.isStep]
    clear hF HW HR HB
    go_wp2_with fail
    exact bodyPost_end (v := .tuple #[]) (by simp [results, Tryz.results146, go_sem]) rfl ⟨rfl, HF.out⟩
theorem Keep.below {w w' : World} {b m : Nat} {l : Nat → Value} {lims : Value} (h : Keep w b m l lims) (hb : Below w.heap.size w w') : Keep w' b m l lims :=
  ⟨h.book.below hb h.book.lt, own_below h.row hb⟩

theorem book_Int (b m : Nat) (l : Nat → Value) (lims : Value) (neg : Bool) (vA : Option Addr) (vn vc : Nat) (hm : m ≤ 1000) (w : World) (h : Keep w b m l lims) :
    Calls Tryz.prog 52 #[.pointer (some ⟨b, 0, none⟩), .agg #[.bool neg, .slice vA vn vc]] w fun e w' => e = .returned (.tuple #[]) ∧ ∃ lims', Keep w' b (m + 1) (updV l m (.slice vA vn vc)) lims' ∧ Below b w w' := by
  have hlt := h.book.lt
  have C := Hd (keep_limb b m l lims vA vn vc hm _ (h.below ((Below.refl _ _).alloc (Nat.le_refl _) (.cells #[.bool neg, .slice vA vn vc] 25))))
  have hb := Hd (((Below.refl w.heap.size w).alloc (Nat.le_refl _) (.cells #[.bool neg, .slice vA vn vc] 25)).mono (Nat.le_of_lt hlt))
  clear h
  go_enter Tryz.func52, Tryz.ntmps52
  go_wp2_with fail
  refine C.out.mono ?_
  rintro e w' ⟨rfl, lims', hk, hb2⟩
  have HF := Hd (⟨lims', hk, hb.out.trans hb2⟩ : ∃ lims', Keep w' b (m + 1) (updV l m (.slice vA vn vc)) lims' ∧ Below b w w')
  clear C hb hk hb2
  go_wp2_with fail
  exact bodyPost_end (v := .tuple #[]) (by simp [results, Tryz.results52, go_sem]) rfl ⟨rfl, HF.out⟩
/- keepLimb leaves a block that is not the Book's as it is. (Written by wip/book/genkeepfar.py.) -/

theorem keep_far (g0 : Nat) (T0 : TypeId) (cs0 : Array Value) (hT0 : T0 ≠ tHeld) (b m : Nat) (hg0 : g0 ≠ b) (l : Nat → Value) (lims : Value) (vA : Option Addr) (vn vc : Nat) (hm : m ≤ 1000) (w : World) (h : Keep w b m l lims) (hx0 : Blk w g0 T0 cs0) :
    Calls Tryz.prog 146 #[.pointer (some ⟨b, 0, none⟩), .slice vA vn vc] w fun e w' => e = .returned (.tuple #[]) ∧ ∃ lims', Keep w' b (m + 1) (updV l m (.slice vA vn vc)) lims' ∧ Below b w w' ∧ Blk w' g0 T0 cs0 := by
  obtain ⟨i0, hi, hz0, hz1, hz2⟩ := info_parts heldInfo
  have hb := h.book
  have hrow := h.row
  have hlt := hb.lt
  have c0 := hb.cell 0
  have f0 := hb.frozen 0
  simp at c0
  have hadd : IntKind.i64.wrap ((m : Int) + 1) = ((m + 1 : Nat) : Int) := by rw [IntWalk.i64_in _ (by omega)]; omega
  clear h
  have HB := Hd hb
  have HR := Hd hrow
  clear hb hrow
  go_enter Tryz.func146, Tryz.ntmps146
  go_wp2_with fail
  have hW : Blk (w.setCell ⟨b, 0, none⟩ (.int .i64 ((m : Int) + 1))) b tBook #[.int .i64 ((m : Int) + 1), lims, nilS, nilS, nilS, nilS, nilS, nilS, nilS, nilS, nilS, nilS, nilS, nilS, nilS, nilS, nilS] := HB.out.set_ 0 _
  have hrW := ownsRow_setCell_below HR.out (a := ⟨b, 0, none⟩) (Nat.lt_succ_self b) (.int .i64 ((m : Int) + 1))
  have hbW : Below b w (w.setCell ⟨b, 0, none⟩ (.int .i64 ((m : Int) + 1))) := (Below.refl b w).setCell (p := ⟨b, 0, none⟩) (Nat.le_refl _) _
  have hgW : Blk (w.setCell ⟨b, 0, none⟩ (.int .i64 ((m : Int) + 1))) g0 T0 cs0 := by
    unfold Blk at hx0 ⊢
    rw [Below.heap_setCell _ ⟨b, 0, none⟩ _ g0 hg0]
    exact hx0
  clear hx0
  obtain ⟨W, E⟩ : ∃ W, W = w.setCell ⟨b, 0, none⟩ (.int .i64 ((m : Int) + 1)) := ⟨_, rfl⟩
  rw [← E] at hW hrW hbW hgW ⊢
  clear E HB HR c0 f0
  have hltW := hW.lt
  have HW := Hd hW
  have HR := Hd hrW
  have HB := Hd hbW
  have HG := Hd hgW
  clear hW hrW hbW hgW hadd
  refine wp_region_stepsB [.val (.pointer (some ⟨b, 0, none⟩)), .val (.pointer (some ⟨b, 0, none⟩)), .val (.pointer (some ⟨b, 0, none⟩)), .val (.pointer (some ⟨b, 1, none⟩)), .val lims, .val (.slice vA vn vc), .val (.pointer (some ⟨b, 0, none⟩)), .val (.pointer (some ⟨b, 0, none⟩)), .val (.pointer (some ⟨b, 0, none⟩)), .val (.int .i64 ((m : Int) + 1)), .val (.agg #[.slice vA vn vc, nilS, .int .i64 ((m : Int) + 1)]), .step, .step, .step, .step, .step] 4 5 (b + 1) W (by omega)
    (fun us V => match us with
      | [] => V.ownsRow (b + 1) tHeld 3 lims m (heldCells l m) ∧ Blk V g0 T0 cs0
      | [u0] => V.ownsRow (b + 1) tHeld 3 lims m (heldCells l m) ∧ Blk V g0 T0 cs0 ∧ ∃ g, u0 = .slice (some ⟨g, 0, none⟩) 1 1 ∧ Reads V V.heap.size 3 (some ⟨g, 0, none⟩) 1 [.slice vA vn vc, nilS, .int .i64 ((m : Int) + 1)]
      | [_, u1] => V.ownsRow (b + 1) tHeld 3 u1 (m + 1) (heldCells (updV l m (.slice vA vn vc)) (m + 1)) ∧ Blk V g0 T0 cs0
      | [_, u1, u2] => u2 = .pointer (some ⟨b, 0, none⟩) ∧ V.ownsRow (b + 1) tHeld 3 u1 (m + 1) (heldCells (updV l m (.slice vA vn vc)) (m + 1)) ∧ Blk V g0 T0 cs0
      | [_, u1, _, u3] => u3 = .pointer (some ⟨b, 1, none⟩) ∧ V.ownsRow (b + 1) tHeld 3 u1 (m + 1) (heldCells (updV l m (.slice vA vn vc)) (m + 1)) ∧ Blk V g0 T0 cs0
      | _ => False)
    (fun _ V => ∃ lims', Keep V b (m + 1) (updV l m (.slice vA vn vc)) lims' ∧ Below b w V ∧ Blk V g0 T0 cs0)
    _ mixedOrders2 (by kernel_rfl) (by kernel_rfl) (by kernel_rfl) (by kernel_rfl) (by kernel_rfl) (by kernel_rfl) (by kernel_rfl) (by kernel_rfl) (by kernel_rfl) rfl ?_ (Below.refl _ _) ⟨HR.out.drew, HG.out.below (Below.refl _ _).drew HG.out.lt⟩ ?_ ?_ ?_
  · intro us V V' hg hb
    match us, hg with
    | [], hg => exact ⟨own_below hg.1 hb, hg.2.below hb hg.2.lt⟩
    | [u0], ⟨h1, h0, g, h2, h3⟩ => exact ⟨own_below h1 hb, h0.below hb h0.lt, g, h2, (h3.below hb).more hb.size⟩
    | [_, u1], hg => exact ⟨own_below hg.1 hb, hg.2.below hb hg.2.lt⟩
    | [_, u1, u2], hg => exact ⟨hg.1, own_below hg.2.1 hb, hg.2.2.below hb hg.2.2.lt⟩
    | [_, u1, u2, u3], hg => exact ⟨hg.1, own_below hg.2.1 hb, hg.2.2.below hb hg.2.2.lt⟩
  · simp [ValsOk, chainAct, fill, pairs, valAt]
    repeat' apply And.intro
    all_goals
      intro V hV
      have hx := HW.out.below hV (Nat.lt_succ_self b)
      have c0 := hx.cell 0
      have c1 := hx.cell 1
      simp at c0 c1
      clear hV hx
      go_simp
      try exact Below.refl _ _
  · simp [StepsOk, chainAct, fill, pairs, valAt, stepNo, List.filter, Stp.isStep]
    refine ⟨fun V hV hr hx0 => ?_, fun u0 => ⟨fun V hV hr hx0 g hu hrd => ?_, fun u1 => ⟨fun V hV hr hx0 => ?_, fun u2 => ⟨fun V hV hu2 hr hx0 => ?_, fun u3 V hV hu3 hr hx0 => ?_⟩⟩⟩⟩
    · go_simp
      exact ⟨hV.alloc (by have := hV.size; omega) _, own_below hr ((Below.refl _ _).alloc (Nat.le_refl _) _), hx0.alloc _, Reads.new1 V _ 3 _ rfl⟩
    · subst hu
      have hsz := hV.size
      refine wp_append_any V (.tmp 15) (.tmp 22) _ rfl (b + 1) tHeld i0 _ 3 56 Tryz.underlying38 hi hz0 hz1 hz2 rfl (by omega) lims m (heldCells l m) rfl hr V.heap.size (some ⟨g, 0, none⟩) 1 1 [.slice vA vn vc, nilS, .int .i64 ((m : Int) + 1)] rfl hrd (by simp [Value.oneCell']) (by unfold maxLen; omega) (by omega) (by omega) ?_
      intro v' w' ho hg hat
      refine ⟨v', rfl, hV.grown hg (by omega) (fun k hk => (hr.lt k hk).1), ?_⟩
      rw [heldCells_more, show ((m + 1 : Nat) : Int) = (m : Int) + 1 by omega]
      exact ⟨ho, hx0.grown hg (Ne.symm (own_blk_ne hr hx0 hT0.symm))⟩
    · go_simp
      try exact ⟨hV, hr, hx0⟩
    · subst hu2
      go_simp
      try exact ⟨hV, hr, hx0⟩
    · subst hu3
      obtain ⟨A1, k1, rfl⟩ := own_form (by omega) hr
      have hx := HW.out.below hV (Nat.lt_succ_self b)
      have c1 := hx.cell 1
      have f1 := hx.frozen 1
      simp at c1
      go_simp
      refine ⟨⟨.slice A1 (m + 1) k1, ?_, ?_⟩, (HB.out.trans (hV.mono (Nat.le_succ b))).setCell (p := ⟨b, 1, none⟩) (Nat.le_refl _) _, by
        unfold Blk at hx0 ⊢
        rw [Below.heap_setCell _ ⟨b, 1, none⟩ _ g0 hg0]
        exact hx0⟩
      · have := hx.set_ 1 (.slice A1 (m + 1) k1)
        exact this
      · exact ownsRow_setCell_below hr (a := ⟨b, 1, none⟩) (Nat.lt_succ_self b) _
  · intro us V hus hF
    simp only [show ¬ (5 ≤ 4) by decide, if_false] at hF
    have HF := Hd hF
    obtain ⟨u0, u1, u2, u3, u4, rfl⟩ : ∃ u0 u1 u2 u3 u4, us = [u0, u1, u2, u3, u4] := by
      match us, hus with
      | [u0, u1, u2, u3, u4], _ => exact ⟨u0, u1, u2, u3, u4, rfl⟩
    simp [chainAct, fill, pairs, valAt, stepNo, List.filter, Stp.isStep]
    clear hF HW HR HB HG
    go_wp2_with fail
    exact bodyPost_end (v := .tuple #[]) (by simp [results, Tryz.results146, go_sem]) rfl ⟨rfl, HF.out⟩

theorem book_Int_far (g0 : Nat) (T0 : TypeId) (cs0 : Array Value) (hT0 : T0 ≠ tHeld) (b m : Nat) (hg0 : g0 ≠ b) (l : Nat → Value) (lims : Value) (neg : Bool) (vA : Option Addr) (vn vc : Nat) (hm : m ≤ 1000) (w : World) (h : Keep w b m l lims) (hx0 : Blk w g0 T0 cs0) :
    Calls Tryz.prog 52 #[.pointer (some ⟨b, 0, none⟩), .agg #[.bool neg, .slice vA vn vc]] w fun e w' => e = .returned (.tuple #[]) ∧ ∃ lims', Keep w' b (m + 1) (updV l m (.slice vA vn vc)) lims' ∧ Below b w w' ∧ Blk w' g0 T0 cs0 := by
  have hlt := h.book.lt
  have C := Hd (keep_far g0 T0 cs0 hT0 b m hg0 l lims vA vn vc hm _ (h.below ((Below.refl _ _).alloc (Nat.le_refl _) (.cells #[.bool neg, .slice vA vn vc] 25))) (hx0.alloc _))
  have hb := Hd (((Below.refl w.heap.size w).alloc (Nat.le_refl _) (.cells #[.bool neg, .slice vA vn vc] 25)).mono (Nat.le_of_lt hlt))
  clear h hx0
  go_enter Tryz.func52, Tryz.ntmps52
  go_wp2_with fail
  refine C.out.mono ?_
  rintro e w' ⟨rfl, lims', hk, hb2, hx⟩
  have HF := Hd (⟨lims', hk, hb.out.trans hb2, hx⟩ : ∃ lims', Keep w' b (m + 1) (updV l m (.slice vA vn vc)) lims' ∧ Below b w w' ∧ Blk w' g0 T0 cs0)
  clear C hb hk hb2 hx
  go_wp2_with fail
  exact bodyPost_end (v := .tuple #[]) (by simp [results, Tryz.results52, go_sem]) rfl ⟨rfl, HF.out⟩
end Go.Proofs.YtipmkkobdbgphaaGreatDoor
