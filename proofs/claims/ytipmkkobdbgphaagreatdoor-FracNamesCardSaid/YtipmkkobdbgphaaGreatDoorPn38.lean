/- Several texts in one: FFloat, FrontAt, RefDigits, RText. -/
import Derived.Test.YtipmkkobdbgphaaGreatDoorPn34
import Derived.Test.YtipmkkobdbgphaaGreatDoorPnHd
import Derived.Test.YtipmkkobdbgphaaGreatDoorPn22
import Derived.Test.YtipmkkobdbgphaaGreatDoorPn27
import Derived.Test.YtipmkkobdbgphaaGreatDoorPn37
import Derived.Test.YtipmkkobdbgphaaGreatDoorPn31
import Derived.Test.YtipmkkobdbgphaaGreatDoorPn05
import Derived.Test.YtipmkkobdbgphaaGreatDoorPn30
import Derived.Test.YtipmkkobdbgphaaGreatDoorPn08
import Derived.Test.YtipmkkobdbgphaaGreatDoorPn32
import Derived.Deep.LoopGhost
import Derived.Laws.IdiomStrings
import Derived.Lib.Itoa
import Derived.Test.YtipmkkobdbgphaaGreatDoorPn23
set_option maxRecDepth 100000
set_option maxHeartbeats 8000000
/- FromFloat, Float of package frac; Worth, Float of the references of chapter 02; SameFloat. (Written by wip/frac/genffloat.py.) -/
namespace Go.Proofs.YtipmkkobdbgphaaGreatDoor
open Go.RowKit

def flN (v : Nat) : Int := if ffin v then fltN v else 0
def flD (v : Nat) : Int := if ffin v then fltD v else 0
def flK (v : Nat) : Int := if ffin v then 0 else 6
theorem frac_FromFloat_fin (v : Nat) (hv : v < 18446744073709551616) (w : World)  (hf : frun v < 9218868437227405312) (htab : tzTab w) :
    Calls Tryz.prog 11 #[.float .f64 v] w (RetFracOwn2 w.heap.size w (fltN v) (fltD v) 0) := by
  have C1 := fun (V : World) => math_IsNaN v V
  have C2 := fun (V : World) => math_IsInf v hv (by omega) V
  rw [decide_eq_false (by omega)] at C1
  rw [decide_eq_false (by omega)] at C2
  have HTW := Hd htab
  have H3 := Hd (fun (V : World) (t : tzTab V) => ratio_FromFloat v hv hf V t)
  obtain ⟨N, hN⟩ : ∃ k : Int, k = fltN v := ⟨_, rfl⟩
  obtain ⟨D, hD⟩ : ∃ k : Int, k = fltD v := ⟨_, rfl⟩
  rw [← hN, ← hD] at H3 ⊢
  have H1 := Hd C1
  have H2 := Hd C2
  clear C2
  clear C1 hf hv htab hN hD
  have b0 := ((Below.refl w.heap.size w).alloc (Nat.le_refl _) (.cells #[.bool false, .slice none 0 0, .bool false, .slice none 0 0] 27))
  have p0 := Quad.new w (.bool false) (.slice none 0 0) (.bool false) (.slice none 0 0)
  have P_r0 := Hd p0
  have HBW := Hd b0
  clear b0 p0 
  go_enter Tryz.func11, Tryz.ntmps11
  obtain ⟨W, E⟩ : ∃ W, W = (w.alloc (.cells #[.bool false, .slice none 0 0, .bool false, .slice none 0 0] 27)) := ⟨_, rfl⟩
  go_upto_region 1 with fail
  rw [← E] at P_r0 HBW ⊢
  clear E
  go_wp2_with fail
  refine (H1.out W).mono ?_
  rintro e9 wz ⟨rfl, rfl⟩
  go_wp2_with fail
  refine (H2.out _).mono ?_
  rintro e8 wy ⟨rfl, rfl⟩
  obtain ⟨y1, hy1⟩ : ∃ Y, Y = wy := ⟨_, rfl⟩
  rw [← hy1] at P_r0 HBW ⊢
  clear hy1
  go_wp2_with fail
  refine (H3.out y1 (HTW.out.below HBW.out)).mono ?_
  rintro e x1 ⟨v2, rfl, hF, hb⟩
  have hFb := hF.base HBW.out.size
  obtain ⟨A3, c3, A4, c4, rfl, -⟩ := hF.form
  have P_r0 := Hd (P_r0.out.below hb)
  have HBW := Hd (belowTo HBW.out hb)
  clear hb
  have HF := Hd hFb
  clear hF hFb
  obtain ⟨l_r0, a_r0, b_r0, f_r0, g_r0⟩ := P_r0.out.facts
  have HQ := Hd (P_r0.out.store (.bool (decide (N < 0))) (.slice A3 (natL N.natAbs).length c3) (.bool (decide (D < 0))) (.slice A4 (natL D.natAbs).length c4))
  have HB := Hd (below4 HBW.out (show w.heap.size ≤ w.heap.size by omega) (.bool (decide (N < 0))) (.slice A3 (natL N.natAbs).length c3) (.bool (decide (D < 0))) (.slice A4 (natL D.natAbs).length c4))
  have HF9 := Hd (HF.out.quad P_r0.out (.bool (decide (N < 0))) (.slice A3 (natL N.natAbs).length c3) (.bool (decide (D < 0))) (.slice A4 (natL D.natAbs).length c4))
  go_wp2_with fail
  obtain ⟨_, k0, k1, k2, k3, _, _, _, _⟩ := HQ.out.facts
  exact bodyPost_ret (by simp [results, Tryz.results11, go_sem, k0, k1, k2, k3]) rfl ⟨_, rfl, HF9.out, HB.out⟩

theorem frac_FromFloat_inf (v : Nat) (hv : v < 18446744073709551616) (w : World)  (hf : frun v = 9218868437227405312) :
    Calls Tryz.prog 11 #[.float .f64 v] w (RetFracOwn2 w.heap.size w 0 0 6) := by
  have C1 := fun (V : World) => math_IsNaN v V
  have C2 := fun (V : World) => math_IsInf v hv (by omega) V
  rw [decide_eq_false (by omega)] at C1
  rw [decide_eq_true hf] at C2
  have H1 := Hd C1
  have H2 := Hd C2
  clear C2
  clear C1 hf hv
  have b0 := ((Below.refl w.heap.size w).alloc (Nat.le_refl _) (.cells #[.bool false, .slice none 0 0, .bool false, .slice none 0 0] 27))
  have p0 := Quad.new w (.bool false) (.slice none 0 0) (.bool false) (.slice none 0 0)
  have P_r0 := Hd p0
  have HBW := Hd b0
  clear b0 p0 
  go_enter Tryz.func11, Tryz.ntmps11
  obtain ⟨W, E⟩ : ∃ W, W = (w.alloc (.cells #[.bool false, .slice none 0 0, .bool false, .slice none 0 0] 27)) := ⟨_, rfl⟩
  go_upto_region 1 with fail
  rw [← E] at P_r0 HBW ⊢
  clear E
  go_wp2_with fail
  refine (H1.out W).mono ?_
  rintro e9 wz ⟨rfl, rfl⟩
  go_wp2_with fail
  refine (H2.out _).mono ?_
  rintro e8 wy ⟨rfl, rfl⟩
  obtain ⟨y1, hy1⟩ : ∃ Y, Y = wy := ⟨_, rfl⟩
  rw [← hy1] at P_r0 HBW ⊢
  clear hy1
  obtain ⟨l_r0, a_r0, b_r0, f_r0, g_r0⟩ := P_r0.out.facts
  have HQ := Hd (P_r0.out.store (.bool false) (.slice none 0 0) (.bool false) (.slice none 0 0))
  have HB := Hd (below4 HBW.out (show w.heap.size ≤ w.heap.size by omega) (.bool false) (.slice none 0 0) (.bool false) (.slice none 0 0))
  go_wp2_with fail
  obtain ⟨_, k0, k1, k2, k3, _, _, _, _⟩ := HQ.out.facts
  exact bodyPost_ret (by simp [results, Tryz.results11, go_sem, k0, k1, k2, k3]) rfl ⟨_, rfl, FracOwn.nought _ _, HB.out⟩

def fltT (b ok : Bool) (f : Nat) : Nat := if b then (if ok then f else 0) else 0
def fltE (b ok : Bool) : Int := if b then (if ok then 0 else 6) else 1

theorem frac_Float_all (n1 n2 b ok : Bool) (A B : Option Addr) (c e0 : Nat) (xs ys : List Nat) (f : Nat) (hc : (chkE n1 n2 xs ys == 0) = b) (w : World) (h : Raw w A c xs) (g : Raw w B e0 ys) (C2 : b = true → ∀ V, Raw V A c xs → Raw V B e0 ys → Calls Tryz.prog 48 #[.agg #[.bool n1, .slice A xs.length c, .bool n2, .slice B ys.length e0]] V fun e w' => e = .returned (.tuple #[.float .f64 f, .bool ok]) ∧ Below V.heap.size V w') :
    Calls Tryz.prog 13 #[.agg #[.bool n1, .slice A xs.length c, .bool n2, .slice B ys.length e0]] w fun e w' => e = .returned (.tuple #[.float .f64 (fltT b ok f), .int .i64 (fltE b ok)]) ∧ Below w.heap.size w w' := by
  have C1 := fun (V : World) (g' : Nat) (h : Raw V A c xs) (g : Raw V B e0 ys) (hg : V.heap.size = g') => checks_new n1 n2 A B c e0 xs ys V g' h g hg
  rw [hc] at C1
  have H1 := Hd C1
  have H2 := Hd C2
  have px := Quad.new w (.bool n1) (.slice A xs.length c) (.bool n2) (.slice B ys.length e0)
  have b0 := (Below.refl w.heap.size w).alloc (Nat.le_refl _) (.cells #[.bool n1, .slice A xs.length c, .bool n2, .slice B ys.length e0] 27)
  have PX := Hd px
  have B0 := Hd b0
  have RX := Hd (h.below b0)
  have RY := Hd (g.below b0)
  clear px b0 h g C1 C2 hc
  go_enter Tryz.func13, Tryz.ntmps13
  obtain ⟨W, E⟩ : ∃ W, W = w.alloc (.cells #[.bool n1, .slice A xs.length c, .bool n2, .slice B ys.length e0] 27) := ⟨_, rfl⟩
  go_upto_region 1 with fail
  rw [← E] at PX B0 RX RY ⊢
  clear E
  obtain ⟨l_x, a_x, b_x, c_x, d_x, -, -, -, -⟩ := PX.out.facts
  go_wp2_with fail
  refine (H1.out W _ RX.out RY.out rfl).mono ?_
  rintro e w1 ⟨rfl, hb⟩
  have PX := Hd ((PX.out.alloc (.cells #[.bool n1, .slice A xs.length c, .bool n2, .slice B ys.length e0] 27)).below hb)
  have BB := Hd (belowTo (B0.out.alloc B0.out.size (.cells #[.bool n1, .slice A xs.length c, .bool n2, .slice B ys.length e0] 27)) hb)
  have RX := Hd ((RX.out.alloc (.cells #[.bool n1, .slice A xs.length c, .bool n2, .slice B ys.length e0] 27)).below hb)
  have RY := Hd ((RY.out.alloc (.cells #[.bool n1, .slice A xs.length c, .bool n2, .slice B ys.length e0] 27)).below hb)
  clear B0 hb l_x a_x b_x c_x d_x
  cases b
  case false =>
    clear H2
    go_wp2_with fail
    go_ret2
    exact ⟨rfl, BB.out⟩
  case true =>
    have H3 := Hd (H2.out rfl)
    clear H2
    obtain ⟨l_x, a_x, b_x, c_x, d_x, -, -, -, -⟩ := PX.out.facts
    go_wp2_with fail
    refine (H3.out w1 RX.out RY.out).mono ?_
    rintro e w2 ⟨rfl, hb⟩
    have HF := Hd (belowTo BB.out hb)
    clear hb l_x a_x b_x c_x d_x
    cases ok
    case true =>
      go_wp2_with fail
      go_ret2
      exact ⟨rfl, HF.out⟩
    case false =>
      go_wp2_with fail
      go_ret2
      exact ⟨rfl, HF.out⟩

/- Where the first bar stands; plain. -/

/- Digits of the references: the decimal text of a whole number. -/

structure Rd (w wr : World) (n1 : Bool) (S : Value) (V v : Nat) (cs : List Nat) (AP : Option Addr) (cP : Nat) (AL : Option Addr) (cL : Nat) : Prop where
  low : Below w.heap.size w wr
  raw : Raw wr AL cL (natL v)
  parts : wr.ownsRow (w.heap.size + 1) 104 1 (.slice AP cs.length cP) cs.length (cellsU cs)
  px : Pair wr w.heap.size 25 (.bool n1) S
  all : chunks V = cs ++ chunks v
  big : v * 2 ^ (29 * cs.length) ≤ V
  few : cs.length ≤ 2000001
def Rev (M : List UInt8) (i : Nat) (ys : List UInt8) : Prop := ys.length = M.length ∧ ∀ j, j < M.length → ys[j]? = if j < i ∨ M.length ≤ j + i then M[M.length - 1 - j]? else M[j]?
theorem Rev.start (M : List UInt8) : Rev M 0 M := ⟨rfl, fun j hj => by rw [if_neg (by omega)]⟩
theorem Rev.done {M ys : List UInt8} {i : Nat} (h : Rev M i ys) (hi : M.length ≤ 2 * i + 1) : ys = M.reverse := by
  apply List.ext_getElem?
  intro j
  rcases Nat.lt_or_ge j M.length with hj | hj
  · rw [h.2 j hj, List.getElem?_reverse hj]
    split
    · rfl
    · rw [show M.length - 1 - j = j by omega]
  · rw [List.getElem?_eq_none (by rw [h.1]; exact hj), List.getElem?_eq_none (by simpa using hj)]
theorem Rev.at_ {M ys : List UInt8} {i j : Nat} (h : Rev M i ys) (hj : j < M.length) (h1 : i ≤ j) (h2 : j + i < M.length) : ys[j]'(by rw [h.1]; exact hj) = M[j] := by
  have := h.2 j hj
  rw [if_neg (by omega), List.getElem?_eq_getElem hj, List.getElem?_eq_getElem (by rw [h.1]; exact hj)] at this
  exact Option.some.inj this
/- Digits of the references of chapter 02. (Written by wip/frac/genrtext.py.) -/

end Go.Proofs.YtipmkkobdbgphaaGreatDoor
