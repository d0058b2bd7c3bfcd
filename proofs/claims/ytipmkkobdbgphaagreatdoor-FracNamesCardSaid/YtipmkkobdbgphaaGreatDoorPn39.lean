/- Several texts in one: RRead, FRefDo, FParse, FNamesC. -/
import Derived.Test.YtipmkkobdbgphaaGreatDoorPn33
import Derived.Test.YtipmkkobdbgphaaGreatDoorPn38
import Derived.Deep.CutBlock
import Derived.Deep.Cut
import Derived.Deep.DeepCutAuto
import Derived.Test.YtipmkkobdbgphaaGreatDoorPn35
import Derived.Test.YtipmkkobdbgphaaGreatDoorPn37
import Derived.Test.YtipmkkobdbgphaaGreatDoorPnHd
import Derived.Test.YtipmkkobdbgphaaGreatDoorPn22
import Derived.Test.YtipmkkobdbgphaaGreatDoorPn25
set_option maxRecDepth 100000
set_option maxHeartbeats 8000000
/- Read of the references of chapter 02. (Written by wip/frac/genrread.py.) -/
namespace Go.Proofs.YtipmkkobdbgphaaGreatDoor
open Go.RowKit

def RetReadG (w : World) (T : Int → Int → Bool → Prop) (e : Ending) (w' : World) : Prop := ∃ N D B, RetFracB w N D B e w' ∧ T N D B

/- Do of the references of chapter 02; do of the laws. (Written by wip/frac/genfrefdo.py.) -/

/- Text of whatever comes in, and Parse, of package frac and of the references. (Written by wip/frac/genparse.py.) -/

def txtT (b : Bool) (t : ByteArray) : ByteArray := if b then (if t.size ≤ 65536 then t else ⟨#[]⟩) else ⟨#[]⟩
def txtK (b : Bool) (t : ByteArray) : Int := if b then (if t.size ≤ 65536 then 0 else 4) else 1
def fprN (s : List UInt8) : Int := if 65536 < s.length then 0 else match readF s with
  | none => 0
  | some p => ansN p.1 p.2
def fprD (s : List UInt8) : Int := if 65536 < s.length then 0 else match readF s with
  | none => 0
  | some p => ansD p.1 p.2
def fprK (s : List UInt8) : Int := if 65536 < s.length then 4 else match readF s with
  | none => 5
  | some p => ansK p.1 p.2

def RetPrsO (w : World) (T : Int → Int → Int → Prop) (e : Ending) (w' : World) : Prop := ∃ N D K, RetFracOwn2 w.heap.size w N D K e w' ∧ T N D K

theorem frac_Parse_all (s : ByteArray) (o : Option (Int × Int)) (w : World)  (ho : s.size ≤ 65536 → ∀ V, Calls Tryz.prog 109 #[.string s] V (RetReadF V o)) (T : Int → Int → Int → Prop) (t1 : 65536 < s.size → T 0 0 4) (t2 : s.size ≤ 65536 → o = none → T 0 0 5) (t3 : s.size ≤ 65536 → ∀ p, o = some p → T (ansN p.1 p.2) (ansD p.1 p.2) (ansK p.1 p.2)) :
    Calls Tryz.prog 30 #[.string s] w (RetPrsO w T) := by
  have H0 := Hd ho
  have T1 := Hd t1
  have T2 := Hd t2
  have T3 := Hd t3
  clear ho t1 t2 t3
  have b0 := ((Below.refl w.heap.size w).alloc (Nat.le_refl _) (.cells #[.bool false, .slice none 0 0, .bool false, .slice none 0 0] 27))
  have p0 := Quad.new w (.bool false) (.slice none 0 0) (.bool false) (.slice none 0 0)
  have P_r0 := Hd p0
  have HBW := Hd b0
  clear b0 p0 
  go_enter Tryz.func30, Tryz.ntmps30
  obtain ⟨W, E⟩ : ∃ W, W = (w.alloc (.cells #[.bool false, .slice none 0 0, .bool false, .slice none 0 0] 27)) := ⟨_, rfl⟩
  go_upto_region 1 with fail
  rw [← E] at P_r0 HBW ⊢
  clear E
  by_cases hl : 65536 < s.size
  · have hz : (65536 : Int) < (s.size : Int) := by omega
    have TT := Hd (T1.out hl)
    clear T1 T2 T3 H0 hl
    obtain ⟨l_r0, a_r0, b_r0, f_r0, g_r0⟩ := P_r0.out.facts
    have HQ := Hd (P_r0.out.store (.bool false) (.slice none 0 0) (.bool false) (.slice none 0 0))
    have HB := Hd (below4 HBW.out (show w.heap.size ≤ w.heap.size by omega) (.bool false) (.slice none 0 0) (.bool false) (.slice none 0 0))
    go_wp2_with fail
    obtain ⟨_, k0, k1, k2, k3, _, _, _, _⟩ := HQ.out.facts
    exact bodyPost_ret (by simp [results, Tryz.results30, go_sem, k0, k1, k2, k3]) rfl ⟨0, 0, _, ⟨_, rfl, FracOwn.nought _ _, HB.out⟩, TT.out⟩
  · have hz : (s.size : Int) ≤ 65536 := by omega
    have hz2 : ¬ (65536 : Int) < (s.size : Int) := by omega
    have H1 := Hd (H0.out (by omega))
    have U2 := Hd (T2.out (by omega))
    have U3 := Hd (T3.out (by omega))
    clear T1 T2 T3 H0 hl
    have hw0 := P_r0.out.blk.lt
    go_wp2_with fail
    refine (H1.out W).mono ?_
    rintro e x1 ⟨n, d, ⟨v, rfl, hF, hb⟩, hp⟩
    obtain ⟨A5, c5, A6, c6, rfl, hF1, hF2⟩ := hF.form
    have P_r0 := Hd (P_r0.out.below hb)
    have HBW := Hd (belowTo HBW.out hb)
    have ha := (Below.refl x1.heap.size x1).alloc (Nat.le_refl _) (.cells #[.bool (decide (n < 0)), .slice A5 (natL n.natAbs).length c5, .bool (decide (d < 0)), .slice A6 (natL d.natAbs).length c6] 27)
    have pp := Quad.new x1 (.bool (decide (n < 0))) (.slice A5 (natL n.natAbs).length c5) (.bool (decide (d < 0))) (.slice A6 (natL d.natAbs).length c6)
    go_upto_region 4 with fail
    obtain ⟨y1, E⟩ : ∃ Y, Y = x1.alloc (.cells #[.bool (decide (n < 0)), .slice A5 (natL n.natAbs).length c5, .bool (decide (d < 0)), .slice A6 (natL d.natAbs).length c6] 27) := ⟨_, rfl⟩
    rw [← E] at ha pp ⊢
    have P_r0 := Hd (P_r0.out.below ha)
    have HBW := Hd (belowTo HBW.out ha)
    have V_x := Hd (FV.mk pp (hF1.rawAt.below ha) (hF2.rawAt.below ha))
    have HPP := Hd hp
    obtain ⟨gx, hg⟩ : ∃ q, q = x1.heap.size := ⟨_, rfl⟩
    rw [← hg] at V_x ⊢
    clear E ha pp hb hF hF1 hF2 hp hg hw0
    cases o
    case none =>
      have TT := Hd (U2.out rfl)
      clear U2 U3 HPP
      obtain ⟨l_r0, a_r0, b_r0, f_r0, g_r0⟩ := P_r0.out.facts
      have HQ := Hd (P_r0.out.store (.bool false) (.slice none 0 0) (.bool false) (.slice none 0 0))
      have HB := Hd (below4 HBW.out (show w.heap.size ≤ w.heap.size by omega) (.bool false) (.slice none 0 0) (.bool false) (.slice none 0 0))
      go_wp2_with fail
      obtain ⟨_, k0, k1, k2, k3, _, _, _, _⟩ := HQ.out.facts
      exact bodyPost_ret (by simp [results, Tryz.results30, go_sem, k0, k1, k2, k3]) rfl ⟨0, 0, _, ⟨_, rfl, FracOwn.nought _ _, HB.out⟩, TT.out⟩
    case some p =>
      obtain rfl := HPP.out p rfl
      have TT := Hd (U3.out (n, d) rfl)
      clear U2 U3 HPP
      obtain ⟨l_x, a_x, b_x, c_x, d_x, -, -, -, -⟩ := V_x.out.quad.facts
      go_wp2_with fail
      refine (frac_answered n d A5 A6 c5 c6 y1 V_x.out.num V_x.out.den).mono ?_
      rintro e x2 ⟨v, rfl, hI, hb⟩
      obtain ⟨N, hN⟩ : ∃ k : Int, k = ansN n d := ⟨_, rfl⟩
      obtain ⟨D, hD⟩ : ∃ k : Int, k = ansD n d := ⟨_, rfl⟩
      obtain ⟨K, hK⟩ : ∃ k : Int, k = ansK n d := ⟨_, rfl⟩
      have TU := Hd (show T N D K by rw [hN, hD, hK]; exact TT.out)
      rw [← hN, ← hD] at hI
      rw [← hK]
      obtain ⟨A7, c7, A8, c8, rfl, -⟩ := hI.form
      have hy1 := HBW.out.size
      have P_r0 := Hd (P_r0.out.below hb)
      have HBW := Hd (belowTo HBW.out hb)
      have HI := Hd hI
      clear hI hb l_x a_x b_x c_x d_x V_x TT hN hD hK
      obtain ⟨l_r0, a_r0, b_r0, f_r0, g_r0⟩ := P_r0.out.facts
      have HQ := Hd (P_r0.out.store (.bool (decide (N < 0))) (.slice A7 (natL N.natAbs).length c7) (.bool (decide (D < 0))) (.slice A8 (natL D.natAbs).length c8))
      have HB := Hd (below4 HBW.out (show w.heap.size ≤ w.heap.size by omega) (.bool (decide (N < 0))) (.slice A7 (natL N.natAbs).length c7) (.bool (decide (D < 0))) (.slice A8 (natL D.natAbs).length c8))
      have HF9 := Hd ((HI.out.quad P_r0.out (.bool (decide (N < 0))) (.slice A7 (natL N.natAbs).length c7) (.bool (decide (D < 0))) (.slice A8 (natL D.natAbs).length c8)).base hy1)
      go_wp2_with fail
      obtain ⟨_, k0, k1, k2, k3, _, _, _, _⟩ := HQ.out.facts
      exact bodyPost_ret (by simp [results, Tryz.results30, go_sem, k0, k1, k2, k3]) rfl ⟨N, D, K, ⟨_, rfl, HF9.out, HB.out⟩, TU.out⟩

theorem frac_Parse (s : ByteArray) (w : World) :
    Calls Tryz.prog 30 #[.string s] w (RetFracOwn2 w.heap.size w (fprN s.data.toList) (fprD s.data.toList) (fprK s.data.toList)) := by
  have hsz : s.data.toList.length = s.size := by rw [Lib.size_eq]
  refine (frac_Parse_all s (readF s.data.toList) w (fun hs V => ratio_Read s hs V) (fun N D K => N = fprN s.data.toList ∧ D = fprD s.data.toList ∧ K = fprK s.data.toList) ?_ ?_ ?_).mono fun e w' ⟨N, D, K, h, e1, e2, e3⟩ => by rw [← e1, ← e2, ← e3]; exact h
  · intro h
    unfold fprN fprD fprK
    rw [if_pos (by omega), if_pos (by omega), if_pos (by omega)]
    exact ⟨rfl, rfl, rfl⟩
  · intro h ho
    unfold fprN fprD fprK
    rw [if_neg (by omega), if_neg (by omega), if_neg (by omega), ho]
    exact ⟨rfl, rfl, rfl⟩
  · intro h p ho
    unfold fprN fprD fprK
    rw [if_neg (by omega), if_neg (by omega), if_neg (by omega), ho]
    exact ⟨rfl, rfl, rfl⟩

def RetPrsR (w : World) (T : Int → Int → Int → Prop) (e : Ending) (w' : World) : Prop := ∃ N D K, RetFrac2 w N D K e w' ∧ T N D K

/- FracNames: some small contracts. (frac_Sign_off: as frac_Sign_bad of XFOpsW.) -/

theorem root_c1 : IsRootZ 1 1 := ⟨by decide, by decide, by decide⟩
theorem root_c2 : IsRootZ 2 1 := ⟨by decide, by decide, by decide⟩
theorem chk_zero_c : chkE false false [] [] = 1 := by decide +kernel
theorem frac_Sign_off (n1 n2 : Bool) (A B : Option Addr) (c e0 : Nat) (xs ys : List Nat) (w : World) (h : Raw w A c xs) (g : Raw w B e0 ys) (hc : (chkE n1 n2 xs ys == 0) = false) :
    Calls Tryz.prog 36 #[.agg #[.bool n1, .slice A xs.length c, .bool n2, .slice B ys.length e0]] w fun e w' => e = .returned (.int .i64 0) ∧ Below w.heap.size w w' := by
  have C1 := fun (V : World) (g' : Nat) (h : Raw V A c xs) (g : Raw V B e0 ys) (hg : V.heap.size = g') => checks_new n1 n2 A B c e0 xs ys V g' h g hg
  rw [hc] at C1
  have H1 := Hd C1
  have px := Quad.new w (.bool n1) (.slice A xs.length c) (.bool n2) (.slice B ys.length e0)
  have b0 := (Below.refl w.heap.size w).alloc (Nat.le_refl _) (.cells #[.bool n1, .slice A xs.length c, .bool n2, .slice B ys.length e0] 27)
  have RX := Hd (h.below b0)
  have RY := Hd (g.below b0)
  have PX := Hd px
  have HB := Hd b0
  clear px b0 h g C1 hc
  go_enter Tryz.func36, Tryz.ntmps36
  obtain ⟨W, E⟩ : ∃ W, W = w.alloc (.cells #[.bool n1, .slice A xs.length c, .bool n2, .slice B ys.length e0] 27) := ⟨_, rfl⟩
  go_upto_region 1 with fail
  rw [← E] at PX RX RY HB ⊢
  clear E
  obtain ⟨l_x, x0, x1, x2, x3, -, -, -, -⟩ := PX.out.facts
  go_wp2_with fail
  refine (H1.out W _ RX.out RY.out rfl).mono ?_
  rintro e wx1 ⟨rfl, hb⟩
  clear l_x x0 x1 x2 x3
  have hb := ((Below.refl W.heap.size W).alloc (Nat.le_refl _) (.cells #[.bool n1, .slice A xs.length c, .bool n2, .slice B ys.length e0] 27)).trans (hb.mono (by simp))
  have HS_wx1 := Hd (show W.heap.size ≤ wx1.heap.size from hb.size)
  have PX := Hd (PX.out.below hb)
  have RX := Hd (RX.out.below hb)
  have RY := Hd (RY.out.below hb)
  have HB := Hd (belowTo HB.out hb)
  go_wp2_with fail
  go_ret
  exact ⟨rfl, HB.out⟩
theorem frac_Sign_none (w : World) :
    Calls Tryz.prog 36 #[.agg #[.bool false, .slice none 0 0, .bool false, .slice none 0 0]] w fun e w' => e = .returned (.int .i64 0) ∧ Below w.heap.size w w' :=
  frac_Sign_off false false none none 0 0 [] [] w (Raw.none_ w) (Raw.none_ w) (by rw [chk_zero_c]; rfl)
end Go.Proofs.YtipmkkobdbgphaaGreatDoor
