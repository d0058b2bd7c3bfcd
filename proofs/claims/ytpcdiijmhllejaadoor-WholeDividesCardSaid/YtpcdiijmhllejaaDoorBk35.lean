/- Several texts in one: Ints, Nums, Builder, DecLaw. -/
import Derived.Test.YtpcdiijmhllejaaDoorBk32
import Derived.Test.YtpcdiijmhllejaaDoorBk33
import Derived.Test.YtpcdiijmhllejaaDoorBk34
import Derived.Test.YtpcdiijmhllejaaDoorBk12
import Derived.Test.YtpcdiijmhllejaaDoorBk03
import Derived.Lib.Builder
import Derived.Lib.AppendStr
import Derived.Lib.Slices
import Derived.Lib.Walk
import Derived.Lib.Strings
import Derived.Laws.Externs
import Derived.WalkKit
import Derived.Lib.ItoaNum
/- The calls of package whole over numbers that may be, told by the numbers alone. -/
namespace Go.Proofs.YtpcdiijmhllejaaDoor
open Go.RowKit

/-- A number that may be. -/
def Fit (x : Int) : Prop := (natL x.natAbs).length ≤ 2048
instance (x : Int) : Decidable (Fit x) := inferInstanceAs (Decidable ((natL x.natAbs).length ≤ 2048))
theorem Fit.ok {x : Int} (h : Fit x) : okI (decide (x < 0)) (natL x.natAbs) = true := by
  refine okI_true.2 ⟨h, canon_natL _, fun e => ?_⟩
  have := natL_eq_nil.1 e
  exact decide_eq_false (by omega)
theorem Fit.mono {x y : Int} (h : Fit y) (hl : x.natAbs ≤ y.natAbs) : Fit x := Nat.le_trans (natL_mono hl) h
theorem Fit.small {x : Int} (h : x.natAbs < 18446744073709551616) : Fit x := by
  unfold Fit
  have : (natL x.natAbs).length ≤ 2 := natL_length_le.2 (by simpa using h)
  omega
theorem fit_of {x : Int} (h : okI (decide (x < 0)) (natL x.natAbs) = true) : Fit x := (okI_true.1 h).1
/-- What came may be: so it is a number's own sign and limbs. -/
theorem ok_num {n : Bool} {xs : List Nat} (hl : Limbs xs) (o : okI n xs = true) : n = decide (ival n xs < 0) ∧ xs = natL (ival n xs).natAbs ∧ Fit (ival n xs) := by
  obtain ⟨o1, o2, o3⟩ := okI_true.1 o
  have ha : (ival n xs).natAbs = val xs := by unfold ival; split <;> omega
  have h2 : xs = natL (ival n xs).natAbs := by rw [ha]; exact (natL_val hl o2).symm
  refine ⟨?_, h2, by unfold Fit; rw [← h2]; exact o1⟩
  by_cases hx : xs = []
  · subst hx
    rw [o3 rfl]; rfl
  · have hp : 0 < val xs := by
      rcases Nat.eq_zero_or_pos (val xs) with h0 | h0
      · have := natL_val hl o2
        rw [h0, natL_zero] at this
        exact absurd this.symm hx
      · exact h0
    unfold ival
    cases n <;> simp <;> omega
theorem IntOwn.raws {w : World} {base : Nat} {v : Value} {x : Int} (h : IntOwn w base v x) : ∃ A c, v = .agg #[.bool (decide (x < 0)), .slice A (natL x.natAbs).length c] ∧ Raw w A c (natL x.natAbs) := h.raw
/-- A call hands back a number and an error. -/
def RetN2 (w : World) (z k : Int) (e : Ending) (w' : World) : Prop := ∃ A c, e = .returned (.tuple #[.agg #[.bool (decide (z < 0)), .slice A (natL z.natAbs).length c], .int .i64 k]) ∧ Raw w' A c (natL z.natAbs) ∧ Below w.heap.size w w'
def RetN3 (w : World) (z1 z2 k : Int) (e : Ending) (w' : World) : Prop := ∃ A c B d, e = .returned (.tuple #[.agg #[.bool (decide (z1 < 0)), .slice A (natL z1.natAbs).length c], .agg #[.bool (decide (z2 < 0)), .slice B (natL z2.natAbs).length d], .int .i64 k]) ∧ Raw w' A c (natL z1.natAbs) ∧ Raw w' B d (natL z2.natAbs) ∧ Below w.heap.size w w'
def RetN1 (w : World) (z : Int) (e : Ending) (w' : World) : Prop := ∃ A c, e = .returned (.agg #[.bool (decide (z < 0)), .slice A (natL z.natAbs).length c]) ∧ Raw w' A c (natL z.natAbs) ∧ Below w.heap.size w w'
theorem RetInt2.n2 {base : Nat} {w w' : World} {z k : Int} {e : Ending} (h : RetInt2 base w z k e w') : RetN2 w z k e w' := by
  obtain ⟨v, rfl, hv, hb⟩ := h
  obtain ⟨A, c, rfl, hr⟩ := hv.raw
  exact ⟨A, c, rfl, hr, hb⟩
theorem RetInt.n1 {base : Nat} {w w' : World} {z : Int} {e : Ending} (h : RetInt base w z e w') : RetN1 w z e w' := by
  obtain ⟨v, rfl, hv, hb⟩ := h
  obtain ⟨A, c, rfl, hr⟩ := hv.raw
  exact ⟨A, c, rfl, hr, hb⟩
theorem RetTwo3.n3 {base : Nat} {w w' : World} {z1 z2 k : Int} {e : Ending} (h : RetTwo3 base w z1 z2 k e w') : RetN3 w z1 z2 k e w' := by
  obtain ⟨v1, v2, rfl, hv, hb⟩ := h
  obtain ⟨A, c, rfl, hr⟩ := hv.one.raw
  obtain ⟨B, d, rfl, hs⟩ := hv.two.raw
  exact ⟨A, c, B, d, rfl, hr, hs, hb⟩

section
variable (x y z : Int) (A B : Option Addr) (c d : Nat) (hx : Fit x) (hy : Fit y) (w : World) (h : Raw w A c (natL x.natAbs)) (g : Raw w B d (natL y.natAbs))
include hx hy h g
theorem add_o (hz : z = x + y) (fz : Fit z) : Calls Tryd.prog 24 #[.agg #[.bool (decide (x < 0)), .slice A (natL x.natAbs).length c], .agg #[.bool (decide (y < 0)), .slice B (natL y.natAbs).length d]] w (RetInt2 w.heap.size w z 0) := by
  have := whole_Add (decide (x < 0)) (decide (y < 0)) A B c d _ _ w h g
  rw [hx.ok, hy.ok, ival_at, ival_at, ← hz, toldV_fits fz, toldE_fits fz] at this
  exact this
theorem add_z (hz : z = x + y) (fz : Fit z) : Calls Tryd.prog 24 #[.agg #[.bool (decide (x < 0)), .slice A (natL x.natAbs).length c], .agg #[.bool (decide (y < 0)), .slice B (natL y.natAbs).length d]] w (RetN2 w z 0) :=
  (add_o x y z A B c d hx hy w h g hz fz).mono fun _ _ q => q.n2
theorem add_long (fz : ¬ Fit (x + y)) : Calls Tryd.prog 24 #[.agg #[.bool (decide (x < 0)), .slice A (natL x.natAbs).length c], .agg #[.bool (decide (y < 0)), .slice B (natL y.natAbs).length d]] w (RetN2 w 0 4) := by
  have := whole_Add (decide (x < 0)) (decide (y < 0)) A B c d _ _ w h g
  rw [hx.ok, hy.ok, ival_at, ival_at, toldV_long (by unfold Fit at fz; omega), toldE_long (by unfold Fit at fz; omega)] at this
  exact this.mono fun e w' q => q.n2
theorem sub_z (hz : z = x - y) (fz : Fit z) : Calls Tryd.prog 20 #[.agg #[.bool (decide (x < 0)), .slice A (natL x.natAbs).length c], .agg #[.bool (decide (y < 0)), .slice B (natL y.natAbs).length d]] w (RetN2 w z 0) := by
  have := whole_Sub (decide (x < 0)) (decide (y < 0)) A B c d _ _ w h g
  rw [hx.ok, hy.ok, ival_at, ival_at, ← hz, toldV_fits fz, toldE_fits fz] at this
  exact this.mono fun e w' q => q.n2
theorem sub_long (fz : ¬ Fit (x - y)) : Calls Tryd.prog 20 #[.agg #[.bool (decide (x < 0)), .slice A (natL x.natAbs).length c], .agg #[.bool (decide (y < 0)), .slice B (natL y.natAbs).length d]] w (RetN2 w 0 4) := by
  have := whole_Sub (decide (x < 0)) (decide (y < 0)) A B c d _ _ w h g
  rw [hx.ok, hy.ok, ival_at, ival_at, toldV_long (by unfold Fit at fz; omega), toldE_long (by unfold Fit at fz; omega)] at this
  exact this.mono fun e w' q => q.n2
theorem mul_o (hz : z = x * y) (fz : Fit z) : Calls Tryd.prog 23 #[.agg #[.bool (decide (x < 0)), .slice A (natL x.natAbs).length c], .agg #[.bool (decide (y < 0)), .slice B (natL y.natAbs).length d]] w (RetInt2 w.heap.size w z 0) := by
  have := whole_Mul (decide (x < 0)) (decide (y < 0)) A B c d _ _ w h g
  rw [hx.ok, hy.ok, ival_at, ival_at, ← hz, toldV_fits fz, toldE_fits fz] at this
  exact this
theorem mul_z (hz : z = x * y) (fz : Fit z) : Calls Tryd.prog 23 #[.agg #[.bool (decide (x < 0)), .slice A (natL x.natAbs).length c], .agg #[.bool (decide (y < 0)), .slice B (natL y.natAbs).length d]] w (RetN2 w z 0) :=
  (mul_o x y z A B c d hx hy w h g hz fz).mono fun _ _ q => q.n2
theorem mul_long (fz : ¬ Fit (x * y)) : Calls Tryd.prog 23 #[.agg #[.bool (decide (x < 0)), .slice A (natL x.natAbs).length c], .agg #[.bool (decide (y < 0)), .slice B (natL y.natAbs).length d]] w (RetN2 w 0 4) := by
  have := whole_Mul (decide (x < 0)) (decide (y < 0)) A B c d _ _ w h g
  rw [hx.ok, hy.ok, ival_at, ival_at, toldV_long (by unfold Fit at fz; omega), toldE_long (by unfold Fit at fz; omega)] at this
  exact this.mono fun e w' q => q.n2
theorem quorem_z (q r : Int) (hy0 : y ≠ 0) (hq : q = x.tdiv y) (hr : r = x.tmod y) : Calls Tryd.prog 12 #[.agg #[.bool (decide (x < 0)), .slice A (natL x.natAbs).length c], .agg #[.bool (decide (y < 0)), .slice B (natL y.natAbs).length d]] w (RetN3 w q r 0) := by
  have := whole_QuoRem (decide (x < 0)) (decide (y < 0)) A B c d _ _ w h g
  unfold quoV remV quoE at this
  have h0 : ¬ (natL y.natAbs).length = 0 := fun e => by
    have := natL_eq_nil.1 (List.eq_nil_of_length_eq_zero e)
    omega
  rw [hx.ok, hy.ok, Bool.and_self, if_pos rfl, if_pos rfl, if_pos rfl, if_neg h0, if_neg h0, if_neg h0, ival_at, ival_at, ← hq, ← hr] at this
  exact this.mono fun e w' q => q.n3
theorem quorem_nought (hy0 : y = 0) (hz0 : z = 0) : Calls Tryd.prog 12 #[.agg #[.bool (decide (x < 0)), .slice A (natL x.natAbs).length c], .agg #[.bool (decide (y < 0)), .slice B (natL y.natAbs).length d]] w (RetN3 w z z 3) := by
  have := whole_QuoRem (decide (x < 0)) (decide (y < 0)) A B c d _ _ w h g
  unfold quoV remV quoE at this
  have h0 : (natL y.natAbs).length = 0 := by rw [hy0]; decide
  rw [hx.ok, hy.ok, Bool.and_self, if_pos rfl, if_pos rfl, if_pos rfl, if_pos h0, if_pos h0, if_pos h0] at this
  rw [hz0]
  exact this.mono fun e w' q => q.n3
theorem gcd_z (hz : z = ((Nat.gcd x.natAbs y.natAbs : Nat) : Int)) : Calls Tryd.prog 11 #[.agg #[.bool (decide (x < 0)), .slice A (natL x.natAbs).length c], .agg #[.bool (decide (y < 0)), .slice B (natL y.natAbs).length d]] w (RetN2 w z 0) := by
  have := whole_GCD (decide (x < 0)) (decide (y < 0)) A B c d _ _ w h g
  unfold gcdV gcdE at this
  rw [hx.ok, hy.ok, Bool.and_self, if_pos rfl, if_pos rfl, val_natL, val_natL, ← hz] at this
  exact this.mono fun e w' q => q.n2
theorem cmp_z (k : Int) (hk : k = cmpz x y) : Calls Tryd.prog 13 #[.agg #[.bool (decide (x < 0)), .slice A (natL x.natAbs).length c], .agg #[.bool (decide (y < 0)), .slice B (natL y.natAbs).length d]] w fun e w' => e = .returned (.int .i64 k) ∧ Below w.heap.size w w' := by
  have := whole_Cmp_any (decide (x < 0)) (decide (y < 0)) A B c d _ _ w h g
  rw [hx.ok, hy.ok, Bool.and_self, if_pos rfl, ival_at, ival_at, ← hk] at this
  exact this
omit hx hy in
theorem same_z (b : Bool) (hb : b = decide (x = y)) : Calls Tryd.prog 15 #[.agg #[.bool (decide (x < 0)), .slice A (natL x.natAbs).length c], .agg #[.bool (decide (y < 0)), .slice B (natL y.natAbs).length d]] w fun e w' => e = .returned (.bool b) ∧ Below w.heap.size w w' := by
  have := same_any (decide (x < 0)) (decide (y < 0)) A B c d _ _ w h g
  have e : decide (decide (x < 0) = decide (y < 0) ∧ natL x.natAbs = natL y.natAbs) = b := by
    rw [hb]
    refine decide_eq_decide.2 ⟨fun ⟨h1, h2⟩ => ?_, fun h => by subst h; exact ⟨rfl, rfl⟩⟩
    have h3 : x.natAbs = y.natAbs := by rw [← val_natL x.natAbs, h2, val_natL]
    have h4 : (x < 0 ↔ y < 0) := decide_eq_decide.1 h1
    omega
  rw [e] at this
  exact this
omit hy g in
theorem sign_z (k : Int) (hk : k = x.sign) : Calls Tryd.prog 16 #[.agg #[.bool (decide (x < 0)), .slice A (natL x.natAbs).length c]] w fun e w' => e = .returned (.int .i64 k) ∧ Below w.heap.size w w' := by
  have := whole_Sign_any (decide (x < 0)) A c _ w h
  rw [hx.ok, if_pos rfl] at this
  have e : sgnI (decide (x < 0)) (natL x.natAbs) = k := by
    rw [hk]; unfold sgnI
    by_cases h0 : (natL x.natAbs).length = 0
    · rw [if_pos h0]
      have := natL_eq_nil.1 (List.eq_nil_of_length_eq_zero h0)
      have : x = 0 := by omega
      subst this; rfl
    · rw [if_neg h0]
      have hn : x ≠ 0 := fun e => h0 (by rw [e]; decide)
      by_cases hl : x < 0
      · rw [if_pos (decide_eq_true hl), Int.sign_eq_neg_one_of_neg hl]
      · rw [if_neg (by simpa using hl), Int.sign_eq_one_of_pos (by omega)]
  rw [e] at this
  exact this
end
theorem of_z (n : Int) (h1 : -9223372036854775808 ≤ n) (h2 : n ≤ 9223372036854775807) (w : World) : Calls Tryd.prog 14 #[.int .i64 n] w (RetN1 w n) := (whole_Of n h1 h2 w).mono fun _ _ q => q.n1
end Go.Proofs.YtpcdiijmhllejaaDoor

/- Variables that hold numbers; lists of numbers handed to may, small. -/
namespace Go.Proofs.YtpcdiijmhllejaaDoor
open Go.RowKit

/-- A variable that holds a number. -/
structure NV (w : World) (g : Nat) (z : Int) (A : Option Addr) (c : Nat) : Prop where
  pair : Pair w g 24 (.bool (decide (z < 0))) (.slice A (natL z.natAbs).length c)
  raw : Raw w A c (natL z.natAbs)
theorem NV.below {w w' : World} {g : Nat} {z : Int} {A : Option Addr} {c : Nat} (h : NV w g z A c) (hb : Below w.heap.size w w') : NV w' g z A c := ⟨h.pair.below hb, h.raw.below hb⟩
theorem NV.of {w w' : World} {g : Nat} {z : Int} {A : Option Addr} {c : Nat} (h : Raw w A c (natL z.natAbs)) (hb : Below w.heap.size w w') (p : Pair w' g 24 (.bool (decide (z < 0))) (.slice A (natL z.natAbs).length c)) : NV w' g z A c := ⟨p, h.below hb⟩
theorem reads_new (w : World) (t : TypeId) (size n : Nat) (cs : List Value) (h : cs.length = n * size) : Reads (w.alloc (.cells cs.toArray t)) (w.heap.size + 1) size (some ⟨w.heap.size, 0, none⟩) n cs :=
  ⟨h, fun _ => ⟨⟨w.heap.size, 0, none⟩, rfl, Nat.lt_succ_self _, fun j u hu => by
    rw [show (⟨w.heap.size, 0, none⟩ : Addr).add j = ⟨w.heap.size, j, none⟩ by unfold Addr.add; split <;> simp_all, (Blk.new w t cs.toArray).cell j, ← hu]
    simp⟩⟩
theorem may_list (l : List Num) (hl : l.length ≤ 1000) (V : World) (hr : ∀ m ∈ l, Raw V m.2.1 m.2.2.1 m.2.2.2) (t : TypeId) (b : Bool) (hb : b = l.all okNum) :
    Calls Tryd.prog 10 #[.slice (some ⟨V.heap.size, 0, none⟩) l.length l.length] (V.alloc (.cells (cellsNum l).toArray t)) fun e w' => e = .returned (.bool b) ∧ Below V.heap.size V w' := by
  have hlen : ∀ l : List Num, (cellsNum l).length = l.length * 2 := by
    intro l
    unfold cellsNum
    induction l with
    | nil => rfl
    | cons a r ih => rw [List.flatMap_cons, List.length_append, ih]; simp; omega
  have hn := reads_new V t 2 l.length (cellsNum l) (hlen l)
  refine (may_any (some ⟨V.heap.size, 0, none⟩) l.length l hl _ (fun m hm => (hr m hm).alloc _) (hn.more (by simp))).mono ?_
  rintro e w' ⟨rfl, h⟩
  exact ⟨by rw [hb], belowTo ((Below.refl _ _).alloc (Nat.le_refl _) _) h⟩
theorem okNum_fit {z : Int} {A : Option Addr} {c : Nat} (h : Fit z) : okNum (decide (z < 0), A, c, natL z.natAbs) = true := h.ok
theorem may1 (x : Int) (A : Option Addr) (c : Nat) (V : World) (h : Raw V A c (natL x.natAbs)) (t : TypeId) (b : Bool) (hb : b = decide (Fit x)) :
    Calls Tryd.prog 10 #[.slice (some ⟨V.heap.size, 0, none⟩) 1 1] (V.alloc (.cells #[.bool (decide (x < 0)), .slice A (natL x.natAbs).length c] t)) fun e w' => e = .returned (.bool b) ∧ Below V.heap.size V w' :=
  may_list [(decide (x < 0), A, c, natL x.natAbs)] (by simp) V (by intro m hm; simp at hm; subst hm; exact h) t b (by
    rw [hb]
    simp only [List.all_cons, List.all_nil, Bool.and_true]
    by_cases f : Fit x
    · rw [okNum_fit f]; simp [f]
    · have : okNum (decide (x < 0), A, c, natL x.natAbs) = false := by
        rw [Bool.eq_false_iff]; intro o; exact f (fit_of o)
      rw [this]; simp [f])
theorem may2 (x y : Int) (A B : Option Addr) (c d : Nat) (V : World) (h : Raw V A c (natL x.natAbs)) (g : Raw V B d (natL y.natAbs)) (fx : Fit x) (fy : Fit y) (t : TypeId) :
    Calls Tryd.prog 10 #[.slice (some ⟨V.heap.size, 0, none⟩) 2 2] (V.alloc (.cells #[.bool (decide (x < 0)), .slice A (natL x.natAbs).length c, .bool (decide (y < 0)), .slice B (natL y.natAbs).length d] t)) fun e w' => e = .returned (.bool true) ∧ Below V.heap.size V w' :=
  may_list [(decide (x < 0), A, c, natL x.natAbs), (decide (y < 0), B, d, natL y.natAbs)] (by simp) V (by intro m hm; simp at hm; rcases hm with rfl | rfl <;> first | exact h | exact g) t true (by simp [okNum_fit fx, okNum_fit fy])
theorem may3 (x y z : Int) (A B C : Option Addr) (c d e : Nat) (V : World) (h : Raw V A c (natL x.natAbs)) (g : Raw V B d (natL y.natAbs)) (k : Raw V C e (natL z.natAbs)) (fx : Fit x) (fy : Fit y) (fz : Fit z) (t : TypeId) :
    Calls Tryd.prog 10 #[.slice (some ⟨V.heap.size, 0, none⟩) 3 3] (V.alloc (.cells #[.bool (decide (x < 0)), .slice A (natL x.natAbs).length c, .bool (decide (y < 0)), .slice B (natL y.natAbs).length d, .bool (decide (z < 0)), .slice C (natL z.natAbs).length e] t)) fun e w' => e = .returned (.bool true) ∧ Below V.heap.size V w' :=
  may_list [(decide (x < 0), A, c, natL x.natAbs), (decide (y < 0), B, d, natL y.natAbs), (decide (z < 0), C, e, natL z.natAbs)] (by simp) V (by intro m hm; simp at hm; rcases hm with rfl | rfl | rfl <;> first | exact h | exact g | exact k) t true (by simp [okNum_fit fx, okNum_fit fy, okNum_fit fz])
/-- Of a constant, told by an opaque number. -/
theorem of_n (n z : Int) (h : z = n) (h1 : -9223372036854775808 ≤ n) (h2 : n ≤ 9223372036854775807) (w : World) : Calls Tryd.prog 14 #[.int .i64 n] w (RetN1 w z) := by
  rw [h]; exact of_z n h1 h2 w
end Go.Proofs.YtpcdiijmhllejaaDoor

/- strings.Builder of a call's own: copyCheck, WriteByte, WriteString at this dump (whose copyCheck has no panic's text: so the shelf's do not lie here). -/
namespace Go.Proofs.YtpcdiijmhllejaaDoor
open Go.RowKit

theorem builderSize : (Tryd.prog.info? 76).map (·.size) = some 2 := by kernel_rfl
theorem builderLies : liesAt Tryd.prog Tryd.prog.depth 76 (2 / Tryd.prog.cellsOf 76) 0 76 1 = true := by kernel_rfl
theorem byteInfo : (Tryd.prog.info? 5).map (fun i => (i.zero, i.size, i.bytes)) = some (some (.int .u8 0), 1, 1) := by kernel_rfl
abbrev Bld (B b : Nat) (bs : List Value) (w : World) : Prop := Lib.IsBuilder 76 5 B b bs w

set_option maxRecDepth 100000 in
set_option maxHeartbeats 1000000 in
theorem check_used (b : Nat) (w : World) (h0 : w.cell? ⟨b, 0, none⟩ = some (.pointer (some ⟨b, 0, none⟩))) :
    Calls Tryd.prog 70 #[.pointer (some ⟨b, 0, none⟩)] w fun e w' => e = .returned (.tuple #[]) ∧ w' = w := by
  obtain ⟨j, hj, -⟩ := Option.map_eq_some_iff.1 builderSize
  go_enter Tryd.func70, Tryd.ntmps70
  go_wp2
  rw [Lib.run_neq_ptr_same w _ Tryd.underlying73 hj]
  go_wp2
  go_end0
  exact ⟨rfl, rfl⟩

set_option maxRecDepth 100000 in
set_option maxHeartbeats 1000000 in
theorem check_fresh (b : Nat) (w : World) (h0 : w.cell? ⟨b, 0, none⟩ = some (.pointer none)) (hsh : w.shape? b = some (76, 2)) (hfz : w.frozen? ⟨b, 0, none⟩ = false) :
    Calls Tryd.prog 70 #[.pointer (some ⟨b, 0, none⟩)] w fun e w' => e = .returned (.tuple #[]) ∧ w' = w.setCell ⟨b, 0, none⟩ (.pointer (some ⟨b, 0, none⟩)) := by
  obtain ⟨j, hj, hjs⟩ := Option.map_eq_some_iff.1 builderSize
  go_enter Tryd.func70, Tryd.ntmps70
  go_wp2
  rw [Lib.run_to_unsafe w ⟨b, 0, none⟩ Tryd.underlying73 Tryd.underlying91 hj (by rw [hjs]; decide) hsh (Nat.zero_lt_succ 1)]
  simp only [Result.andThen]
  rw [Oper.upon_value]
  go_wp2
  rw [run_callFunc_extern Tryd.func73 (by kernel_rfl) (by kernel_rfl) (by kernel_rfl) (e := Extern.AbiNoEscape.same) (by kernel_rfl)]
  rw [Lib.run_noEscape]
  simp only [Result.andThen]
  rw [Oper.upon_value]
  go_wp2
  rw [Lib.run_from_unsafe w ⟨b, 0, none⟩ Tryd.underlying91 Tryd.underlying73 hj hsh builderLies]
  simp only [Result.andThen]
  rw [Oper.upon_value]
  go_wp2
  go_end0
  exact ⟨rfl, rfl⟩

theorem builder_check (B b : Nat) (bs : List Value) (w : World) (h : Bld B b bs w) :
    Calls Tryd.prog 70 #[.pointer (some ⟨b, 0, none⟩)] w fun e w' => e = .returned (.tuple #[]) ∧ Lib.BuilderAt 76 5 B b (.pointer (some ⟨b, 0, none⟩)) bs w' ∧ Below B w w' ∧ w'.heap.size = w.heap.size ∧ w.grownBy w' (some b) := by
  rcases h with h | h
  · refine (check_fresh b w h.cell0 h.shape h.frozen0).mono ?_
    rintro e w' ⟨rfl, rfl⟩
    exact ⟨rfl, h.used _, (Below.refl B w).setCell (p := ⟨b, 0, none⟩) h.1 _, by simp [World.setCell], ⟨rfl, rfl, rfl, by simp [World.setCell], fun k _ hk => Below.heap_setCell _ _ _ _ (fun e => hk (by simp [e]))⟩⟩
  · refine (check_used b w h.cell0).mono ?_
    rintro e w' ⟨rfl, rfl⟩
    exact ⟨rfl, h, Below.refl B _, rfl, World.grownBy.refl _ _⟩

set_option maxRecDepth 100000 in
set_option maxHeartbeats 2000000 in
theorem write_byte (B b : Nat) (bs : List Value) (u : Int) (w : World) (h : Bld B b bs w) (hlen : bs.length + 1 ≤ 140737488355328) (hBw : B ≤ w.heap.size) :
    Calls Tryd.prog 58 #[.pointer (some ⟨b, 0, none⟩), .int .u8 u] w fun e w' => e = .returned .nilIface ∧ Bld B b (bs ++ [.int .u8 u]) w' ∧ Below B w w' := by
  obtain ⟨i0, hi, hz0, hz1, hz2⟩ := info_parts byteInfo
  have C := Lib.hid (builder_check B b bs w h)
  clear h
  go_enter Tryd.func58, Tryd.ntmps58
  go_wp2_with fail
  refine C.out.mono ?_
  rintro e w1 ⟨rfl, ⟨hB, v, hbk, hown, hne⟩, hb1, hs1, -⟩
  have c0 : w1.cell? ⟨b, 0, none⟩ = some (.pointer (some ⟨b, 0, none⟩)) := by rw [Lib.cell_of_heap hbk]; rfl
  have c1 : w1.cell? ⟨b, 1, none⟩ = some v := by rw [Lib.cell_of_heap hbk]; rfl
  have hlt : b < w1.heap.size := by
    rcases Nat.lt_or_ge b w1.heap.size with h' | h'
    · exact h'
    · simp [Array.getElem?_eq_none h'] at hbk
  have HB1 := Lib.hid hb1
  have hBw1 : B ≤ w1.heap.size := by omega
  have hwl : w.heap.size ≤ w1.heap.size := by omega
  clear C hb1 hs1
  go_wp2_with (
      at_builtin
      refine wpList_append_own _ rfl _ _ 74 rfl B 5 i0 (.int .u8 0) 1 1 Tryd.underlying74 hi hz0 hz1 hz2 rfl (by decide) _ _ _ rfl (hown.alloc _) ⟨w1.heap.size, 0, none⟩ 1 1 [.int .u8 u] rfl rfl (by
      intro j x hj
      match j, hj with
      | 0, hj => simp at hj; subst hj; simp [Addr.add]) (by intro x hx; simp at hx; subst hx; rfl) (by unfold maxLen; omega) (by omega) (by simp; omega) ?_
      intro v' w2 hown' hgrow hat'
      have hb2 : w2.heap[b]? = some (.cells #[.pointer (some ⟨b, 0, none⟩), v] 76 (0, 0)) := by
        rw [hgrow.block b (by simp; omega) (fun e => hne e.symm), Lib.alloc_old w1 _ b hlt]
        exact hbk
      have d0 : w2.cell? ⟨b, 0, none⟩ = some (.pointer (some ⟨b, 0, none⟩)) := by rw [Lib.cell_of_heap hb2]; rfl
      have d1 : w2.cell? ⟨b, 1, none⟩ = some v := by rw [Lib.cell_of_heap hb2]; rfl
      have f1 : w2.frozen? ⟨b, 1, none⟩ = false := Lib.frozen_of_heap hb2 1
      obtain ⟨g, cap, rfl⟩ : ∃ g cap, v' = .slice (some ⟨g, 0, none⟩) (bs.length + 1) cap := by
        rcases hown'.2 with ⟨_, h0⟩ | ⟨g, cap, cur, hv, _⟩
        · omega
        · exact ⟨g, cap, hv⟩)
  go_ret
  refine ⟨rfl, .inr ?_, ?_⟩
  · exact Lib.BuilderAt.put (T := 76) (e := 5) hB hb2 (bs' := bs ++ [.int .u8 u]) (by simpa using hown') (by decide)
  · exact ((HB1.out.alloc (by omega) _).grown hgrow (by simp; omega) (fun k hk => (hown.lt k hk).1)).setCell (p := ⟨b, 1, none⟩) hB _

set_option maxRecDepth 100000 in
set_option maxHeartbeats 2000000 in
theorem write_string (B b : Nat) (bs : List Value) (s : ByteArray) (w : World) (h : Bld B b bs w) (hlen : bs.length + s.size ≤ 140737488355328) (hBw : B ≤ w.heap.size) :
    Calls Tryd.prog 59 #[.pointer (some ⟨b, 0, none⟩), .string s] w fun e w' => e = .returned (.tuple #[.int .i64 s.size, .nilIface]) ∧ Bld B b (bs ++ Lib.strCells s) w' ∧ Below B w w' := by
  obtain ⟨i0, hi, hz0, hz1, hz2⟩ := info_parts byteInfo
  have C := Lib.hid (builder_check B b bs w h)
  clear h
  go_enter Tryd.func59, Tryd.ntmps59
  go_wp2_with fail
  refine C.out.mono ?_
  rintro e w1 ⟨rfl, ⟨hB, v, hbk, hown, hne⟩, hb1, hs1, -⟩
  have c0 : w1.cell? ⟨b, 0, none⟩ = some (.pointer (some ⟨b, 0, none⟩)) := by rw [Lib.cell_of_heap hbk]; rfl
  have c1 : w1.cell? ⟨b, 1, none⟩ = some v := by rw [Lib.cell_of_heap hbk]; rfl
  have hlt : b < w1.heap.size := by
    rcases Nat.lt_or_ge b w1.heap.size with h' | h'
    · exact h'
    · simp [Array.getElem?_eq_none h'] at hbk
  have HB1 := Lib.hid hb1
  have hBw1 : B ≤ w1.heap.size := by omega
  have hwl : w.heap.size ≤ w1.heap.size := by omega
  clear C hb1 hs1
  go_wp2_with (
      at_builtin
      refine Lib.wpList_append_own_string _ rfl _ _ 74 9 rfl B 5 i0 Tryd.underlying74 Tryd.underlying9 hi hz0 hz1 hz2 _ _ _ rfl hown s rfl (by unfold maxLen; omega) (by omega) (by omega) ?_
      intro v' w2 hown' hgrow hat'
      have hb2 : w2.heap[b]? = some (.cells #[.pointer (some ⟨b, 0, none⟩), v] 76 (0, 0)) := by
        rw [hgrow.block b hlt (fun e => hne e.symm)]
        exact hbk
      have d0 : w2.cell? ⟨b, 0, none⟩ = some (.pointer (some ⟨b, 0, none⟩)) := by rw [Lib.cell_of_heap hb2]; rfl
      have d1 : w2.cell? ⟨b, 1, none⟩ = some v := by rw [Lib.cell_of_heap hb2]; rfl
      have f1 : w2.frozen? ⟨b, 1, none⟩ = false := Lib.frozen_of_heap hb2 1
      obtain ⟨ao, n', cap, rfl⟩ : ∃ ao n' cap, v' = .slice ao n' cap := by
        rcases hown'.2 with ⟨hv, _⟩ | ⟨g, cap, cur, hv, _⟩
        · exact ⟨_, _, _, hv⟩
        · exact ⟨_, _, _, hv⟩)
  go_ret2
  refine ⟨rfl, .inr ?_, ?_⟩
  · exact Lib.BuilderAt.put (T := 76) (e := 5) hB hb2 (bs' := bs ++ Lib.strCells s) (by simpa [Lib.strCells_length] using hown') (by decide)
  · exact (HB1.out.grown hgrow (by omega) (fun k hk => (hown.lt k hk).1)).setCell (p := ⟨b, 1, none⟩) hB _
end Go.Proofs.YtpcdiijmhllejaaDoor

/- Decimal digits by nines: plain Lean. -/
namespace Go.Proofs.YtpcdiijmhllejaaDoor

/-- k digits, noughts ahead. -/
def padN : Nat → Nat → List UInt8
  | 0, _ => []
  | k + 1, c => padN k (c / 10) ++ [UInt8.ofNat (48 + c % 10)]
theorem padN_length : ∀ (k c : Nat), (padN k c).length = k
  | 0, _ => rfl
  | k + 1, c => by simp [padN, padN_length k]
theorem dec_last {v : Nat} (h : 10 ≤ v) : Lib.decDigits v = Lib.decDigits (v / 10) ++ [UInt8.ofNat (48 + v % 10)] := by
  rw [Lib.decDigits, dif_neg (by omega)]
theorem dec_split : ∀ (k v : Nat), 10 ^ k ≤ v → Lib.decDigits v = Lib.decDigits (v / 10 ^ k) ++ padN k v
  | 0, v, _ => by simp [padN]
  | k + 1, v, h => by
    have e : 10 ^ (k + 1) = 10 * 10 ^ k := by rw [Nat.pow_succ, Nat.mul_comm]
    have hp : 0 < 10 ^ k := Nat.pow_pos (by omega)
    have h10 : 10 ≤ v := by
      have : 10 * 1 ≤ 10 * 10 ^ k := Nat.mul_le_mul_left _ hp
      omega
    have hk : 10 ^ k ≤ v / 10 := by
      rw [Nat.le_div_iff_mul_le (by omega), Nat.mul_comm]; omega
    rw [dec_last h10, dec_split k (v / 10) hk, padN, e, Nat.div_div_eq_div_mul, List.append_assoc]
theorem padN_dec : ∀ (k c : Nat), 0 < k → c < 10 ^ k → padN k c = List.replicate (k - (Lib.decDigits c).length) 48 ++ Lib.decDigits c
  | 0, _, h, _ => absurd h (by omega)
  | k + 1, c, _, hc => by
    rw [padN]
    rcases Nat.lt_or_ge c 10 with h | h
    · have e0 : c / 10 = 0 := by omega
      have em : c % 10 = c := by omega
      rw [e0, em, Lib.decDigits_one h]
      have z : ∀ j, padN j 0 = List.replicate j 48 := by
        intro j
        induction j with
        | zero => rfl
        | succ j ih => rw [padN, Nat.zero_div, ih, List.replicate_succ']; rfl
      rw [z]; simp
    · have hk : 0 < k := by
        rcases Nat.eq_zero_or_pos k with h0 | h0
        · subst h0; simp at hc; omega
        · exact h0
      have hc2 : c / 10 < 10 ^ k := by
        rw [Nat.div_lt_iff_lt_mul (by omega), Nat.mul_comm, ← Nat.pow_succ']; exact hc
      rw [padN_dec k (c / 10) hk hc2, dec_last h, List.append_assoc]
      simp
theorem padN_mod (k : Nat) : ∀ (c : Nat), padN k (c % 10 ^ k) = padN k c := by
  induction k with
  | zero => intro c; rfl
  | succ k ih =>
    intro c
    rw [padN, padN]
    have e : 10 ^ (k + 1) = 10 * 10 ^ k := by rw [Nat.pow_succ, Nat.mul_comm]
    have e1 : c % 10 ^ (k + 1) / 10 = c / 10 % 10 ^ k := by rw [e, Nat.mod_mul_right_div_self]
    have e2 : c % 10 ^ (k + 1) % 10 = c % 10 := by rw [e, Nat.mod_mul_right_mod]
    rw [e1, e2, ih]
/-- Nine digits of a chunk, as the program tells them: noughts ahead, then its digits. -/
theorem pad9 (c : Nat) (h : c < 1000000000) : padN 9 c = List.replicate (9 - (Lib.decDigits c).length) 48 ++ Lib.decDigits c := padN_dec 9 c (by omega) (by simpa using h)
theorem dec_nine {v : Nat} (h : 1000000000 ≤ v) : Lib.decDigits v = Lib.decDigits (v / 1000000000) ++ padN 9 (v % 1000000000) := by
  have e : (10 : Nat) ^ 9 = 1000000000 := by decide
  have := dec_split 9 v (by rw [e]; exact h)
  rw [← padN_mod, e] at this
  exact this
/-- A number's chunks of nine digits, the lowest ahead. -/
def chunks (v : Nat) : List Nat := if h : v = 0 then [] else (v % 1000000000) :: chunks (v / 1000000000)
decreasing_by omega
theorem chunks_nil : chunks 0 = [] := by rw [chunks, dif_pos rfl]
theorem chunks_cons {v : Nat} (h : v ≠ 0) : chunks v = (v % 1000000000) :: chunks (v / 1000000000) := by rw [chunks, dif_neg h]
theorem chunks_lt : ∀ (v : Nat), ∀ c ∈ chunks v, c < 1000000000 := by
  intro v
  induction v using Nat.strongRecOn with
  | ind v ih =>
    intro c hc
    by_cases h : v = 0
    · subst h; rw [chunks_nil] at hc; simp at hc
    · rw [chunks_cons h] at hc
      rcases List.mem_cons.1 hc with rfl | hc
      · omega
      · exact ih _ (by omega) c hc
/-- The text of chunks, the highest one plain, the others of nine digits. -/
def chunkText : List Nat → List UInt8
  | [] => []
  | [c] => Lib.decDigits c
  | c :: d :: r => chunkText (d :: r) ++ padN 9 c
theorem chunk_text : ∀ (v : Nat), v ≠ 0 → chunkText (chunks v) = Lib.decDigits v := by
  intro v
  induction v using Nat.strongRecOn with
  | ind v ih =>
    intro h
    rw [chunks_cons h]
    by_cases h2 : v / 1000000000 = 0
    · rw [h2, chunks_nil]
      show Lib.decDigits (v % 1000000000) = _
      rw [Nat.mod_eq_of_lt (by omega)]
    · rw [dec_nine (by omega), ← ih _ (by omega) h2, chunks_cons h2]
      rfl
theorem dec_short : ∀ (k c : Nat), 0 < k → c < 10 ^ k → (Lib.decDigits c).length ≤ k
  | 0, _, h, _ => absurd h (by omega)
  | k + 1, c, _, hc => by
    rcases Nat.lt_or_ge c 10 with h | h
    · rw [Lib.decDigits_one h]; simp
    · have hk : 0 < k := by
        rcases Nat.eq_zero_or_pos k with h0 | h0
        · subst h0; simp at hc; omega
        · exact h0
      have hc2 : c / 10 < 10 ^ k := by
        rw [Nat.div_lt_iff_lt_mul (by omega), Nat.mul_comm, ← Nat.pow_succ']; exact hc
      have := dec_short k (c / 10) hk hc2
      rw [dec_last h]; simp; omega
theorem dec_nine_len {c : Nat} (h : c < 1000000000) : (Lib.decDigits c).length ≤ 9 := dec_short 9 c (by omega) (by simpa using h)
theorem chunkText_length : ∀ (cs : List Nat), (∀ c ∈ cs, c < 1000000000) → (chunkText cs).length ≤ 9 * cs.length
  | [], _ => by simp [chunkText]
  | [c], h => by have := dec_nine_len (h c (by simp)); simp [chunkText]; omega
  | c :: d :: r, h => by
    have := chunkText_length (d :: r) (fun x hx => h x (List.mem_cons_of_mem _ hx))
    simp [chunkText, padN_length] at *
    omega
theorem chunk_top {cs : List Nat} {m : Nat} (h : m + 1 = cs.length) : chunkText (cs.drop m) = Lib.decDigits (cs[m]'(by omega)) := by
  have e : cs.drop m = [cs[m]'(by omega)] := by
    rw [List.drop_eq_getElem_cons (by omega), List.drop_eq_nil_of_le (by omega)]
  rw [e]; rfl
theorem chunk_next {cs : List Nat} {m : Nat} (h : m + 1 < cs.length) : chunkText (cs.drop m) = chunkText (cs.drop (m + 1)) ++ padN 9 (cs[m]'(by omega)) := by
  have e : cs.drop m = cs[m]'(by omega) :: cs[m + 1]'h :: cs.drop (m + 1 + 1) := by
    rw [List.drop_eq_getElem_cons (by omega), List.drop_eq_getElem_cons h]
  have e2 : cs.drop (m + 1) = cs[m + 1]'h :: cs.drop (m + 1 + 1) := List.drop_eq_getElem_cons h
  rw [e, e2]; rfl
end Go.Proofs.YtpcdiijmhllejaaDoor
