/- Several texts in one: Trees, TreesOwn, FLong, FAnswered, Book. -/
import Derived.Test.YtdonecnhdkjniaaGreatDoorGx15
set_option maxRecDepth 100000
set_option maxHeartbeats 8000000
namespace Go.Proofs.YtdonecnhdkjniaaGreatDoor
open Go.RowKit
def addN (n d m f : Int) : Int := YX (n * f + m * d) (d * f)
def addD (n d m f : Int) : Int := YP (n * f + m * d) (d * f)
def subN (n d m f : Int) : Int := YX (n * f - m * d) (d * f)
def subD (n d m f : Int) : Int := YP (n * f - m * d) (d * f)
def mulN (n d m f : Int) : Int := YX (n * m) (d * f)
def mulD (n d m f : Int) : Int := YP (n * m) (d * f)
def quoN (n d m f : Int) : Int := YX (n * f) (d * m)
def quoD (n d m f : Int) : Int := YP (n * f) (d * m)



theorem flong_one (b : Bool) (A : Option Addr) (n c : Nat) (hn : n <= 9223372036854775807) (V : World) (g : Nat) (hg : V.heap.size = g) :
  Calls Tryz.prog 223 #[.slice (some ⟨g, 0, none⟩) 1 1] (V.alloc (.cells #[.bool b, .slice A n c] 24)) fun e w' => e = .returned (.bool (decide (2048 < n))) /\ Below (V.alloc (.cells #[.bool b, .slice A n c] 24)).heap.size (V.alloc (.cells #[.bool b, .slice A n c] 24)) w' := by
 have := exact_Long (some ⟨g, 0, none⟩) 1 [(b, A, n, c)] (by simp) (by simp; omega) (V.alloc (.cells #[.bool b, .slice A n c] 24)) (by subst hg; exact (ZD.new1 V 24 2 [.bool b, .slice A n c] rfl).more (by simp))
 simpa using this


theorem Zl.nought (w : World) (base : Nat) : Zl w base (.agg #[.bool false, .slice none 0 0, .bool false, .slice none 0 0]) 0 0 :=
 ⟨none, 0, none, 0, rfl, Zc.nought _ _, Zc.nought _ _, fun g hg => by cases hg⟩
theorem Zl.quad {w : World} {base g : Nat} {v a b c d : Value} {n m : Int} (h : Zl w base v n m) (q : Zz w g a b c d) (x y z u : Value) : Zl ((((w.setCell ⟨g, 0, none⟩ x).setCell ⟨g, 1, none⟩ y).setCell ⟨g, 2, none⟩ z).setCell ⟨g, 3, none⟩ u) base v n m := by
 obtain ⟨A, k, B, e, h1, h2, h3, h4⟩ := h.form
 have one : ∀ {v : Value} {x' : Int}, Zc w base v x' -> Zc ((((w.setCell ⟨g, 0, none⟩ x).setCell ⟨g, 1, none⟩ y).setCell ⟨g, 2, none⟩ z).setCell ⟨g, 3, none⟩ u) base v x' := fun {v x'} hi => by
  obtain ⟨A', c', a1, a2, a3, a4⟩ := hi.form
  have hne := Xb a4 q.blk (by decide)
  refine ⟨A', c', a1, a2, a3, a4.1, ?_⟩
  rcases a4.2 with p | ⟨g', cap, cur, p1, p2, p3, p4⟩
  . exact .inl p
  . refine .inr ⟨g', cap, cur, p1, p2, ?_, p4⟩
    have hg : g' ≠ g := fun e => by
     rw [p1] at hne
     exact hne (by simp [Value.ownBlock, e])
    rw [Below.heap_setCell _ ⟨g, 3, none⟩ u g' hg, Below.heap_setCell _ ⟨g, 2, none⟩ z g' hg, Below.heap_setCell _ ⟨g, 1, none⟩ y g' hg, Below.heap_setCell _ ⟨g, 0, none⟩ x g' hg]
    exact p3
 exact ⟨A, k, B, e, h1, one h2, one h3, h4⟩
theorem Zl.base {w : World} {b b' : Nat} {v : Value} {n d : Int} (h : Zl w b v n d) (hb : b' <= b) : Zl w b' v n d := by
 obtain ⟨A, k, B, e, h1, h2, h3, h4⟩ := h.form
 exact ⟨A, k, B, e, h1, h2.base hb, h3.base hb, h4⟩

def YI (j : Nat) : Value := .int .u32 ((100001 + j : Nat) : Int)
abbrev ZG : Value := .slice none 0 0
abbrev Z6 (m : Nat) (lims : Value) : Array Value := #[.int .i64 (m : Int), lims, ZG, ZG, ZG, ZG, ZG, ZG, ZG, ZG, ZG, ZG, ZG, ZG, ZG, ZG, ZG]
abbrev Z2 : TypeId := 55
abbrev Xf : TypeId := 108
abbrev XI : TypeId := 109
structure YW (w : World) (g0 m : Nat) (l long : Nat -> Value) : Prop where
 cells : ∃ cs, ZJ w g0 Xf cs /\ ∀ j, j < m -> cs[j * 3]? = some (l j) /\ cs[j * 3 + 1]? = some (long j) /\ cs[j * 3 + 2]? = some (.int .i64 ((j + 1 : Nat) : Int))
def Xv (f : Nat -> Value) (i : Nat) (v : Value) : Nat -> Value := fun j => if j = i then v else f j
theorem XO (f : Nat -> Value) (i : Nat) (v : Value) : Xv f i v i = v := by simp [Xv]
theorem Y8 (f : Nat -> Value) {i j : Nat} (v : Value) (h : j ≠ i) : Xv f i v j = f j := by simp [Xv, h]
def updL (f : Nat -> List Value) (i : Nat) (v : List Value) : Nat -> List Value := fun j => if j = i then v else f j
theorem updL_same (f : Nat -> List Value) (i : Nat) (v : List Value) : updL f i v i = v := by simp [updL]
theorem updL_ne (f : Nat -> List Value) {i j : Nat} (v : List Value) (h : j ≠ i) : updL f i v j = f j := by simp [updL, h]

theorem YW.below {w w' : World} {g0 m : Nat} {l long : Nat -> Value} (h : YW w g0 m l long) (hb : Below w.heap.size w w') : YW w' g0 m l long := by
 obtain ⟨cs, h1, h2⟩ := h.cells
 exact ⟨cs, h1.below hb h1.lt, h2⟩
theorem YW.lt {w : World} {g0 m : Nat} {l long : Nat -> Value} (h : YW w g0 m l long) : g0 < w.heap.size := by
 obtain ⟨cs, h1, _⟩ := h.cells
 exact h1.lt
theorem YW.far {w : World} {g0 m g : Nat} {l long : Nat -> Value} (h : YW w g0 m l long) (hn : g0 ≠ g) (k : Nat) (u : Value) : YW (w.setCell ⟨g, k, none⟩ u) g0 m l long := by
 obtain ⟨cs, h1, h2⟩ := h.cells
 exact ⟨cs, h1.far (p := ⟨g, k, none⟩) hn u, h2⟩
theorem YW.kept {w w' : World} {g0 m : Nat} {l long : Nat -> Value} (h : YW w g0 m l long) {row : Option Nat} (hg : w.grownBy w' row) (hn : some g0 ≠ row) : YW w' g0 m l long := by
 obtain ⟨cs, h1, h2⟩ := h.cells
 exact ⟨cs, (hg.block g0 h1.lt hn).trans h1, h2⟩
theorem YW.set {w : World} {g0 m : Nat} {l long : Nat -> Value} (h : YW w g0 m l long) {i : Nat} (hi : i < m) (v : Value) : YW (w.setCell ⟨g0, i * 3 + 1, none⟩ v) g0 m l (Xv long i v) := by
 obtain ⟨cs, h1, h2⟩ := h.cells
 refine ⟨cs.setIfInBounds (i * 3 + 1) v, h1.set_ (i * 3 + 1) v, fun j hj => ?_⟩
 obtain ⟨a1, a2, a3⟩ := h2 j hj
 refine ⟨?_, ?_, ?_⟩
 . rw [Array.getElem?_setIfInBounds_ne (by omega)]; exact a1
 . by_cases e : j = i
   . subst e
     have hs : j * 3 + 1 < cs.size := (Array.getElem?_eq_some_iff.1 a2).1
     rw [XO]; simp [hs]
   . rw [Array.getElem?_setIfInBounds_ne (by omega), Y8 _ _ e]; exact a2
 . rw [Array.getElem?_setIfInBounds_ne (by omega)]; exact a3
theorem YW.at_ {w : World} {g0 m : Nat} {l long : Nat -> Value} (h : YW w g0 m l long) {i : Nat} (hi : i < m) :
  w.cell? ⟨g0, i * 3, none⟩ = some (l i) /\ w.cell? ⟨g0, i * 3 + 1, none⟩ = some (long i) /\ w.cell? ⟨g0, i * 3 + 2, none⟩ = some (.int .i64 ((i + 1 : Nat) : Int)) /\ w.frozen? ⟨g0, i * 3 + 1, none⟩ = false := by
 obtain ⟨cs, h1, h2⟩ := h.cells
 obtain ⟨a1, a2, a3⟩ := h2 i hi
 exact ⟨by rw [h1.cell]; exact a1, by rw [h1.cell]; exact a2, by rw [h1.cell]; exact a3, h1.frozen _⟩

theorem own_set {w : World} {base : Nat} {e : TypeId} {g n c : Nat} {xs : List Value} (h : w.ownsRow base e 1 (.slice (some ⟨g, 0, none⟩) n c) n xs) {k : Nat} (hk : k < n) (u : Value) : (w.setCell ⟨g, k, none⟩ u).ownsRow base e 1 (.slice (some ⟨g, 0, none⟩) n c) n (xs.set k u) := by
 refine ⟨by rw [List.length_set]; exact h.1, ?_⟩
 rcases h.2 with ⟨h1, h2⟩ | ⟨g', cap, cur, h1, h2, h3, h4, h5, h6, h7⟩
 . omega
 . injection h1 with a1 a2 a3
   injection a1 with a1
   injection a1 with a1
   subst a1 a3
   refine .inr ⟨g, c, cur.setIfInBounds k u, rfl, h2, ZJ.set_ (cs := cur) (t := e) h3 k u, h4, h5, by simpa using h6, ?_⟩
   rw [<- h7]
   simp [List.take_set]
theorem own_cut {w : World} {base : Nat} {e : TypeId} {A : Option Addr} {n c k : Nat} {xs : List Value} (h : w.ownsRow base e 1 (.slice A n c) n xs) (hk : k <= n) : w.ownsRow base e 1 (.slice A k c) k (xs.take k) := by
 rcases h.2 with ⟨h1, h2⟩ | ⟨g, cap, cur, h1, h2, h3, h4, h5, h6, h7⟩
 . injection h1 with a1 a2 a3
   subst a1 a3
   have : k = 0 := by omega
   subst this
   exact ⟨by simp, .inl ⟨rfl, rfl⟩⟩
 . injection h1 with a1 a2 a3
   subst a1 a3
   have hl := h.1
   refine ⟨by rw [List.length_take]; omega, .inr ⟨g, c, cur, rfl, h2, h3, by omega, h5, h6, ?_⟩⟩
   rw [<- h7, List.take_take, Nat.mul_one, Nat.mul_one, Nat.min_eq_left (by omega)]

structure Plain (b g0 m B0 : Nat) (l : Nat -> Value) (n : Nat -> Nat) : Prop where
 hb : B0 <= b
 hg : b < g0
 hm : m <= 1000
 hn : ∀ j, j < m -> n j <= 1073741824
 under : ∀ j, j < m -> ∀ g, (l j).ownBlock = some g -> g ≠ b /\ g ≠ g0
 apart : ∀ j k, j < m -> k < m -> j ≠ k -> ∀ g, (l j).ownBlock = some g -> (l k).ownBlock ≠ some g
structure Xk (w0 w : World) (b g0 cap m B0 : Nat) (l long : Nat -> Value) (n : Nat -> Nat) (X : Nat -> List Value) : Prop where
 book : ZJ w b Z2 (Z6 m (.slice (some ⟨g0, 0, none⟩) m cap))
 arr : YW w g0 m l long
 rows : ∀ j, j < m -> w.ownsRow B0 XI 1 (l j) (n j) (X j)
 low : Below B0 w0 w
section
variable {w0 w w' : World} {b g0 cap m B0 : Nat} {l long : Nat -> Value} {n : Nat -> Nat} {X : Nat -> List Value}
theorem Xk.below (h : Xk w0 w b g0 cap m B0 l long n X) (p : Plain b g0 m B0 l n) (hb : Below w.heap.size w w') : Xk w0 w' b g0 cap m B0 l long n X :=
 ⟨h.book.below hb h.book.lt, h.arr.below hb, fun j hj => Zt (h.rows j hj) hb, h.low.trans (hb.mono (by have := h.book.lt; have := p.hb; omega))⟩
theorem Xk.alloc (h : Xk w0 w b g0 cap m B0 l long n X) (p : Plain b g0 m B0 l n) (o : Obj) : Xk w0 (w.alloc o) b g0 cap m B0 l long n X := h.below p ((Below.refl _ _).alloc (Nat.le_refl _) o)
theorem Xk.write (h : Xk w0 w b g0 cap m B0 l long n X) (p : Plain b g0 m B0 l n) {i g c k : Nat} (hi : i < m) (hl : l i = .slice (some ⟨g, 0, none⟩) (n i) c) (hk : k < n i) (u : Value) :
   Xk w0 (w.setCell ⟨g, k, none⟩ u) b g0 cap m B0 l long n (updL X i ((X i).set k u)) := by
 have hgb := p.under i hi g (by rw [hl]; rfl)
 have hB : B0 <= g := ((h.rows i hi).lt g (by rw [hl]; rfl)).1
 refine ⟨h.book.far (p := ⟨g, k, none⟩) (by have : b ≠ g := by omega
                                            exact this) u, h.arr.far (by omega) k u, fun j hj => ?_, h.low.setCell (p := ⟨g, k, none⟩) hB u⟩
 by_cases e : j = i
 . subst e
   rw [updL_same, hl]
   have := h.rows j hj
   rw [hl] at this
   exact own_set this hk u
 . rw [updL_ne _ _ e]
   exact ownsRow_setCell_other (h.rows j hj) (p.apart i j hi hj (Ne.symm e) g (by rw [hl]; rfl)) u
theorem Xk.more (h : Xk w0 w b g0 cap m B0 l long n X) (p : Plain b g0 m B0 l n) {i : Nat} (hi : i < m) (v : Value) : Xk w0 (w.setCell ⟨g0, i * 3 + 1, none⟩ v) b g0 cap m B0 l (Xv long i v) n X := by
 refine ⟨h.book.far (p := ⟨g0, i * 3 + 1, none⟩) (by have := p.hg; have : b ≠ g0 := by omega
                                                     exact this) v, h.arr.set hi v, fun j hj => ?_, h.low.setCell (p := ⟨g0, i * 3 + 1, none⟩) (by have := p.hg; have := p.hb; show B0 <= g0; omega) v⟩
 exact ownsRow_setCell_other (h.rows j hj) (fun e => (p.under j hj g0 e).2 rfl) v
end

def Z1 (l : Nat -> Value) (m : Nat) : List Value := (List.range m).flatMap fun j => [l j, ZG, .int .i64 ((j + 1 : Nat) : Int)]
theorem heldCells_length (l : Nat -> Value) (m : Nat) : (Z1 l m).length = m * 3 := by
 unfold Z1
 induction m with
 | zero => rfl
 | succ m ih => rw [List.range_succ, List.flatMap_append, List.length_append, ih]; simp; omega
theorem heldCells_more (l : Nat -> Value) (m : Nat) (v : Value) : Z1 (Xv l m v) (m + 1) = Z1 l m ++ [v, ZG, .int .i64 ((m + 1 : Nat) : Int)] := by
 unfold Z1
 rw [List.range_succ, List.flatMap_append]
 congr 1
 . refine congrArg List.flatten (List.map_congr_left fun j hj => ?_)
   rw [Y8 _ _ (by have := List.mem_range.1 hj; omega)]
 . simp [XO]
theorem heldCells_at (l : Nat -> Value) (m j : Nat) (hj : j < m) : (Z1 l m)[j * 3]? = some (l j) /\ (Z1 l m)[j * 3 + 1]? = some ZG /\ (Z1 l m)[j * 3 + 2]? = some (.int .i64 ((j + 1 : Nat) : Int)) := by
 induction m with
 | zero => omega
 | succ m ih =>
  have e : Z1 l (m + 1) = Z1 l m ++ [l m, ZG, .int .i64 ((m + 1 : Nat) : Int)] := by
    have := heldCells_more l m (l m)
    rw [<- this]
    congr 1
    funext k
    by_cases h : k = m
    . subst h; rw [XO]
    . rw [Y8 _ _ h]
  have hl := heldCells_length l m
  rw [e]
  by_cases h : j = m
  . subst h
    refine ⟨?_, ?_, ?_⟩
    . rw [List.getElem?_append_right (by omega), hl]; simp
    . rw [List.getElem?_append_right (by omega), hl, show j * 3 + 1 - j * 3 = 1 by omega]; rfl
    . rw [List.getElem?_append_right (by omega), hl, show j * 3 + 2 - j * 3 = 2 by omega]; rfl
  . obtain ⟨a1, a2, a3⟩ := ih (by omega)
    refine ⟨?_, ?_, ?_⟩
    . rw [List.getElem?_append_left (by omega)]; exact a1
    . rw [List.getElem?_append_left (by omega)]; exact a2
    . rw [List.getElem?_append_left (by omega)]; exact a3
structure JC (w : World) (b m : Nat) (l : Nat -> Value) (lims : Value) : Prop where
 book : ZJ w b Z2 (Z6 m lims)
 row : w.ownsRow (b + 1) Xf 3 lims m (Z1 l m)
end Go.Proofs.YtdonecnhdkjniaaGreatDoor
