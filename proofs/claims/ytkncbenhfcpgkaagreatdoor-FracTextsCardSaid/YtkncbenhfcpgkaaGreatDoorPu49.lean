/- Several texts in one: FParse, Lives3. -/
import Derived.Test.YtkncbenhfcpgkaaGreatDoorPu47
import Derived.Test.YtkncbenhfcpgkaaGreatDoorPuHd
import Derived.Test.YtkncbenhfcpgkaaGreatDoorPu48
import Derived.Test.YtkncbenhfcpgkaaGreatDoorPu28
import Derived.Test.YtkncbenhfcpgkaaGreatDoorPu27
import Derived.Test.YtkncbenhfcpgkaaGreatDoorPu17
import Derived.Test.YtkncbenhfcpgkaaGreatDoorPu39
import Derived.Test.YtkncbenhfcpgkaaGreatDoorPu20
import Derived.Test.YtkncbenhfcpgkaaGreatDoorPu25
import Derived.Test.YtkncbenhfcpgkaaGreatDoorPu16
import Derived.Test.YtkncbenhfcpgkaaGreatDoorPu24
import Derived.Test.YtkncbenhfcpgkaaGreatDoorPu19
import Derived.Test.YtkncbenhfcpgkaaGreatDoorPu04
import Derived.Test.YtkncbenhfcpgkaaGreatDoorPu07
import Derived.Test.YtkncbenhfcpgkaaGreatDoorPu22
import Derived.Test.YtkncbenhfcpgkaaGreatDoorPu02
import Derived.Test.YtkncbenhfcpgkaaGreatDoorPu01
import Derived.Test.YtkncbenhfcpgkaaGreatDoorPu06
import Derived.Test.YtkncbenhfcpgkaaGreatDoorPu03
import Derived.Test.YtkncbenhfcpgkaaGreatDoorPu05
import Derived.Test.YtkncbenhfcpgkaaGreatDoorPu08
import Derived.Test.YtkncbenhfcpgkaaGreatDoorPu15
import Derived.Test.YtkncbenhfcpgkaaGreatDoorPu23
import Derived.Test.YtkncbenhfcpgkaaGreatDoorPu14
import Derived.Test.YtkncbenhfcpgkaaGreatDoorPu11
import Derived.Test.YtkncbenhfcpgkaaGreatDoorPu13
import Derived.Test.YtkncbenhfcpgkaaGreatDoorPu12
import Derived.Test.YtkncbenhfcpgkaaGreatDoorPu26
import Derived.Test.YtkncbenhfcpgkaaGreatDoorPu42
import Derived.Test.YtkncbenhfcpgkaaGreatDoorPu18
import Derived.Test.YtkncbenhfcpgkaaGreatDoorPu09
import Derived.Test.YtkncbenhfcpgkaaGreatDoorPu44
import Derived.Test.YtkncbenhfcpgkaaGreatDoorPu43
import Derived.Test.YtkncbenhfcpgkaaGreatDoorPu31
import Derived.Test.YtkncbenhfcpgkaaGreatDoorPu30
import Derived.Test.YtkncbenhfcpgkaaGreatDoorPu29
import Derived.Test.YtkncbenhfcpgkaaGreatDoorPu10
import Derived.Test.YtkncbenhfcpgkaaGreatDoorPu46
import Derived.Test.YtkncbenhfcpgkaaGreatDoorPu45
set_option maxRecDepth 100000
set_option maxHeartbeats 8000000
/- Text of whatever comes in, and Parse, of package frac and of the references. (Written by wip/frac/genparse.py.) -/
namespace Go.Proofs.YtkncbenhfcpgkaaGreatDoor
open Go.RowKit

def txtT (b : Bool) (t : ByteArray) : ByteArray := if b then (if t.size ≤ 65536 then t else ⟨#[]⟩) else ⟨#[]⟩
def txtK (b : Bool) (t : ByteArray) : Int := if b then (if t.size ≤ 65536 then 0 else 4) else 1
theorem txt_bad (t : ByteArray) : txtT false t = ⟨#[]⟩ ∧ txtK false t = 1 := ⟨rfl, rfl⟩
theorem txt_good {t : ByteArray} (h : t.size ≤ 65536) : txtT true t = t ∧ txtK true t = 0 := by unfold txtT txtK; simp [h]
theorem txt_long {t : ByteArray} (h : ¬ t.size ≤ 65536) : txtT true t = ⟨#[]⟩ ∧ txtK true t = 4 := by unfold txtT txtK; simp [h]
def fprN (s : List UInt8) : Int := if 65536 < s.length then 0 else match readF s with
  | none => 0
  | some p => ansN p.1 p.2
def fprD (s : List UInt8) : Int := if 65536 < s.length then 0 else match readF s with
  | none => 0
  | some p => ansD p.1 p.2
def fprK (s : List UInt8) : Int := if 65536 < s.length then 4 else match readF s with
  | none => 5
  | some p => ansK p.1 p.2

theorem frac_Text_all (n1 n2 b : Bool) (A B : Option Addr) (c e0 : Nat) (xs ys : List Nat) (t : ByteArray) (hc : (chkE n1 n2 xs ys == 0) = b) (w : World) (h : Raw w A c xs) (g : Raw w B e0 ys) (htab : powTab w) (C2 : b = true → ∀ V, Raw V A c xs → Raw V B e0 ys → powTab V → Calls Tryz.prog 98 #[.agg #[.bool n1, .slice A xs.length c, .bool n2, .slice B ys.length e0]] V fun e w' => e = .returned (.string t) ∧ Below V.heap.size V w') :
    Calls Tryz.prog 25 #[.agg #[.bool n1, .slice A xs.length c, .bool n2, .slice B ys.length e0]] w fun e w' => e = .returned (.tuple #[.string (txtT b t), .int .i64 (txtK b t)]) ∧ Below w.heap.size w w' := by
  have C1 := fun (V : World) (g' : Nat) (h : Raw V A c xs) (g : Raw V B e0 ys) (hg : V.heap.size = g') => checks_new n1 n2 A B c e0 xs ys V g' h g hg
  rw [hc] at C1
  have H1 := Hd C1
  have H2 := Hd C2
  have px := Quad.new w (.bool n1) (.slice A xs.length c) (.bool n2) (.slice B ys.length e0)
  have b0 := (Below.refl w.heap.size w).alloc (Nat.le_refl _) (.cells #[.bool n1, .slice A xs.length c, .bool n2, .slice B ys.length e0] 56)
  have PX := Hd px
  have B0 := Hd b0
  have RX := Hd (h.below b0)
  have RY := Hd (g.below b0)
  have HTW := Hd htab
  clear px b0 h g C1 C2 htab hc
  go_enter Tryz.func25, Tryz.ntmps25
  obtain ⟨W, E⟩ : ∃ W, W = w.alloc (.cells #[.bool n1, .slice A xs.length c, .bool n2, .slice B ys.length e0] 56) := ⟨_, rfl⟩
  go_upto_region 1 with fail
  rw [← E] at PX B0 RX RY ⊢
  clear E
  obtain ⟨l_x, a_x, b_x, c_x, d_x, -, -, -, -⟩ := PX.out.facts
  go_wp2_with fail
  refine (H1.out W _ RX.out RY.out rfl).mono ?_
  rintro e w1 ⟨rfl, hb⟩
  have PX := Hd ((PX.out.alloc (.cells #[.bool n1, .slice A xs.length c, .bool n2, .slice B ys.length e0] 56)).below hb)
  have BB := Hd (belowTo (B0.out.alloc B0.out.size (.cells #[.bool n1, .slice A xs.length c, .bool n2, .slice B ys.length e0] 56)) hb)
  have RX := Hd ((RX.out.alloc (.cells #[.bool n1, .slice A xs.length c, .bool n2, .slice B ys.length e0] 56)).below hb)
  have RY := Hd ((RY.out.alloc (.cells #[.bool n1, .slice A xs.length c, .bool n2, .slice B ys.length e0] 56)).below hb)
  clear B0 hb l_x a_x b_x c_x d_x
  cases b
  case false =>
    have HX := Hd (txt_bad t)
    clear H2
    go_wp2_with fail
    go_ret2
    exact ⟨by rw [HX.out.1, HX.out.2]; rfl, BB.out⟩
  case true =>
    have H3 := Hd (H2.out rfl)
    clear H2
    obtain ⟨l_x, a_x, b_x, c_x, d_x, -, -, -, -⟩ := PX.out.facts
    go_wp2_with fail
    refine (H3.out w1 RX.out RY.out (HTW.out.below2 BB.out)).mono ?_
    rintro e w2 ⟨rfl, hb⟩
    have HF := Hd (belowTo BB.out hb)
    clear hb l_x a_x b_x c_x d_x
    by_cases hs : t.size ≤ 65536
    · have HX := Hd (txt_good hs)
      have hz : (t.size : Int) ≤ 65536 := by omega
      clear hs
      go_wp2_with fail
      go_ret2
      exact ⟨by rw [HX.out.1, HX.out.2]; rfl, HF.out⟩
    · have HX := Hd (txt_long hs)
      have hz : (65536 : Int) < (t.size : Int) := by omega
      clear hs
      go_wp2_with fail
      go_ret2
      exact ⟨by rw [HX.out.1, HX.out.2]; rfl, HF.out⟩
def RetPrsO (w : World) (T : Int → Int → Int → Prop) (e : Ending) (w' : World) : Prop := ∃ N D K, RetFracOwn2 w.heap.size w N D K e w' ∧ T N D K

theorem frac_Parse_all (s : ByteArray) (o : Option (Int × Int)) (w : World)  (ho : s.size ≤ 65536 → ∀ V, Calls Tryz.prog 100 #[.string s] V (RetReadF V o)) (T : Int → Int → Int → Prop) (t1 : 65536 < s.size → T 0 0 4) (t2 : s.size ≤ 65536 → o = none → T 0 0 5) (t3 : s.size ≤ 65536 → ∀ p, o = some p → T (ansN p.1 p.2) (ansD p.1 p.2) (ansK p.1 p.2)) :
    Calls Tryz.prog 27 #[.string s] w (RetPrsO w T) := by
  have H0 := Hd ho
  have T1 := Hd t1
  have T2 := Hd t2
  have T3 := Hd t3
  clear ho t1 t2 t3
  have b0 := ((Below.refl w.heap.size w).alloc (Nat.le_refl _) (.cells #[.bool false, .slice none 0 0, .bool false, .slice none 0 0] 56))
  have p0 := Quad.new w (.bool false) (.slice none 0 0) (.bool false) (.slice none 0 0)
  have P_r0 := Hd p0
  have HBW := Hd b0
  clear b0 p0 
  go_enter Tryz.func27, Tryz.ntmps27
  obtain ⟨W, E⟩ : ∃ W, W = (w.alloc (.cells #[.bool false, .slice none 0 0, .bool false, .slice none 0 0] 56)) := ⟨_, rfl⟩
  go_upto_region 1 with fail
  rw [← E] at P_r0 HBW ⊢
  clear E
  by_cases hl : 65536 < s.size
  · have hz : (65536 : Int) < (s.size : Int) := by omega
    have TT := Hd (T1.out hl)
    clear T1 T2 T3 H0 hl
    obtain ⟨l_r0, a_r0, b_r0, f_r0, g_r0⟩ := P_r0.out.facts
    have HQ := Hd (P_r0.out.store (.bool false) (.slice none 0 0) (.bool false) (.slice none 0 0))
    have HB := Hd (below4 HBW.out (show w.heap.size ≤ w.heap.size by omega) (.bool false) (.slice none 0 0) (.bool false) (.slice none 0 0))
    go_wp2_with fail
    obtain ⟨_, k0, k1, k2, k3, _, _, _, _⟩ := HQ.out.facts
    exact bodyPost_ret (by simp [results, Tryz.results27, go_sem, k0, k1, k2, k3]) rfl ⟨0, 0, _, ⟨_, rfl, FracOwn.nought _ _, HB.out⟩, TT.out⟩
  · have hz : (s.size : Int) ≤ 65536 := by omega
    have hz2 : ¬ (65536 : Int) < (s.size : Int) := by omega
    have H1 := Hd (H0.out (by omega))
    have U2 := Hd (T2.out (by omega))
    have U3 := Hd (T3.out (by omega))
    clear T1 T2 T3 H0 hl
    have hw0 := P_r0.out.blk.lt
    go_wp2_with fail
    refine (H1.out W).mono ?_
    rintro e x1 ⟨n, d, ⟨v, rfl, hF, hb⟩, hp⟩
    obtain ⟨A5, c5, A6, c6, rfl, hF1, hF2⟩ := hF.form
    have P_r0 := Hd (P_r0.out.below hb)
    have HBW := Hd (belowTo HBW.out hb)
    have ha := (Below.refl x1.heap.size x1).alloc (Nat.le_refl _) (.cells #[.bool (decide (n < 0)), .slice A5 (natL n.natAbs).length c5, .bool (decide (d < 0)), .slice A6 (natL d.natAbs).length c6] 56)
    have pp := Quad.new x1 (.bool (decide (n < 0))) (.slice A5 (natL n.natAbs).length c5) (.bool (decide (d < 0))) (.slice A6 (natL d.natAbs).length c6)
    go_upto_region 4 with fail
    obtain ⟨y1, E⟩ : ∃ Y, Y = x1.alloc (.cells #[.bool (decide (n < 0)), .slice A5 (natL n.natAbs).length c5, .bool (decide (d < 0)), .slice A6 (natL d.natAbs).length c6] 56) := ⟨_, rfl⟩
    rw [← E] at ha pp ⊢
    have P_r0 := Hd (P_r0.out.below ha)
    have HBW := Hd (belowTo HBW.out ha)
    have V_x := Hd (FV.mk pp (hF1.rawAt.below ha) (hF2.rawAt.below ha))
    have HPP := Hd hp
    obtain ⟨gx, hg⟩ : ∃ q, q = x1.heap.size := ⟨_, rfl⟩
    rw [← hg] at V_x ⊢
    clear E ha pp hb hF hF1 hF2 hp hg hw0
    cases o
    case none =>
      have TT := Hd (U2.out rfl)
      clear U2 U3 HPP
      obtain ⟨l_r0, a_r0, b_r0, f_r0, g_r0⟩ := P_r0.out.facts
      have HQ := Hd (P_r0.out.store (.bool false) (.slice none 0 0) (.bool false) (.slice none 0 0))
      have HB := Hd (below4 HBW.out (show w.heap.size ≤ w.heap.size by omega) (.bool false) (.slice none 0 0) (.bool false) (.slice none 0 0))
      go_wp2_with fail
      obtain ⟨_, k0, k1, k2, k3, _, _, _, _⟩ := HQ.out.facts
      exact bodyPost_ret (by simp [results, Tryz.results27, go_sem, k0, k1, k2, k3]) rfl ⟨0, 0, _, ⟨_, rfl, FracOwn.nought _ _, HB.out⟩, TT.out⟩
    case some p =>
      obtain rfl := HPP.out p rfl
      have TT := Hd (U3.out (n, d) rfl)
      clear U2 U3 HPP
      obtain ⟨l_x, a_x, b_x, c_x, d_x, -, -, -, -⟩ := V_x.out.quad.facts
      go_wp2_with fail
      refine (frac_answered n d A5 A6 c5 c6 y1 V_x.out.num V_x.out.den).mono ?_
      rintro e x2 ⟨v, rfl, hI, hb⟩
      obtain ⟨N, hN⟩ : ∃ k : Int, k = ansN n d := ⟨_, rfl⟩
      obtain ⟨D, hD⟩ : ∃ k : Int, k = ansD n d := ⟨_, rfl⟩
      obtain ⟨K, hK⟩ : ∃ k : Int, k = ansK n d := ⟨_, rfl⟩
      have TU := Hd (show T N D K by rw [hN, hD, hK]; exact TT.out)
      rw [← hN, ← hD] at hI
      rw [← hK]
      obtain ⟨A7, c7, A8, c8, rfl, -⟩ := hI.form
      have hy1 := HBW.out.size
      have P_r0 := Hd (P_r0.out.below hb)
      have HBW := Hd (belowTo HBW.out hb)
      have HI := Hd hI
      clear hI hb l_x a_x b_x c_x d_x V_x TT hN hD hK
      obtain ⟨l_r0, a_r0, b_r0, f_r0, g_r0⟩ := P_r0.out.facts
      have HQ := Hd (P_r0.out.store (.bool (decide (N < 0))) (.slice A7 (natL N.natAbs).length c7) (.bool (decide (D < 0))) (.slice A8 (natL D.natAbs).length c8))
      have HB := Hd (below4 HBW.out (show w.heap.size ≤ w.heap.size by omega) (.bool (decide (N < 0))) (.slice A7 (natL N.natAbs).length c7) (.bool (decide (D < 0))) (.slice A8 (natL D.natAbs).length c8))
      have HF9 := Hd ((HI.out.quad P_r0.out (.bool (decide (N < 0))) (.slice A7 (natL N.natAbs).length c7) (.bool (decide (D < 0))) (.slice A8 (natL D.natAbs).length c8)).base hy1)
      go_wp2_with fail
      obtain ⟨_, k0, k1, k2, k3, _, _, _, _⟩ := HQ.out.facts
      exact bodyPost_ret (by simp [results, Tryz.results27, go_sem, k0, k1, k2, k3]) rfl ⟨N, D, K, ⟨_, rfl, HF9.out, HB.out⟩, TU.out⟩

theorem frac_Parse (s : ByteArray) (w : World) :
    Calls Tryz.prog 27 #[.string s] w (RetFracOwn2 w.heap.size w (fprN s.data.toList) (fprD s.data.toList) (fprK s.data.toList)) := by
  have hsz : s.data.toList.length = s.size := by rw [Lib.size_eq]
  refine (frac_Parse_all s (readF s.data.toList) w (fun hs V => ratio_Read s hs V) (fun N D K => N = fprN s.data.toList ∧ D = fprD s.data.toList ∧ K = fprK s.data.toList) ?_ ?_ ?_).mono fun e w' ⟨N, D, K, h, e1, e2, e3⟩ => by rw [← e1, ← e2, ← e3]; exact h
  · intro h
    unfold fprN fprD fprK
    rw [if_pos (by omega), if_pos (by omega), if_pos (by omega)]
    exact ⟨rfl, rfl, rfl⟩
  · intro h ho
    unfold fprN fprD fprK
    rw [if_neg (by omega), if_neg (by omega), if_neg (by omega), ho]
    exact ⟨rfl, rfl, rfl⟩
  · intro h p ho
    unfold fprN fprD fprK
    rw [if_neg (by omega), if_neg (by omega), if_neg (by omega), ho]
    exact ⟨rfl, rfl, rfl⟩

theorem ref02_Text_all (n1 n2 b : Bool) (A B : Option Addr) (c e0 : Nat) (xs ys : List Nat) (t : ByteArray) (hc : (chkE n1 n2 xs ys == 0) = b) (w : World) (h : Raw w A c xs) (g : Raw w B e0 ys) (C2 : b = true → ∀ V, Raw V A c xs → Raw V B e0 ys → Calls Tryz.prog 99 #[.agg #[.bool n1, .slice A xs.length c, .bool n2, .slice B ys.length e0]] V fun e w' => e = .returned (.string t) ∧ Below V.heap.size V w') :
    Calls Tryz.prog 26 #[.agg #[.bool n1, .slice A xs.length c, .bool n2, .slice B ys.length e0]] w fun e w' => e = .returned (.tuple #[.string (txtT b t), .int .i64 (txtK b t)]) ∧ Below w.heap.size w w' := by
  have C1 := fun (V : World) (g' : Nat) (h : Raw V A c xs) (g : Raw V B e0 ys) (hg : V.heap.size = g') => rchecks_new n1 n2 A B c e0 xs ys V g' h g hg
  rw [hc] at C1
  have H1 := Hd C1
  have H2 := Hd C2
  have px := Quad.new w (.bool n1) (.slice A xs.length c) (.bool n2) (.slice B ys.length e0)
  have b0 := (Below.refl w.heap.size w).alloc (Nat.le_refl _) (.cells #[.bool n1, .slice A xs.length c, .bool n2, .slice B ys.length e0] 56)
  have PX := Hd px
  have B0 := Hd b0
  have RX := Hd (h.below b0)
  have RY := Hd (g.below b0)
  clear hc
  clear px b0 h g C1 C2
  go_enter Tryz.func26, Tryz.ntmps26
  obtain ⟨W, E⟩ : ∃ W, W = w.alloc (.cells #[.bool n1, .slice A xs.length c, .bool n2, .slice B ys.length e0] 56) := ⟨_, rfl⟩
  go_upto_region 1 with fail
  rw [← E] at PX B0 RX RY ⊢
  clear E
  obtain ⟨l_x, a_x, b_x, c_x, d_x, -, -, -, -⟩ := PX.out.facts
  go_wp2_with fail
  refine (H1.out W _ RX.out RY.out rfl).mono ?_
  rintro e w1 ⟨rfl, hb⟩
  have PX := Hd ((PX.out.alloc (.cells #[.bool n1, .slice A xs.length c, .bool n2, .slice B ys.length e0] 56)).below hb)
  have BB := Hd (belowTo (B0.out.alloc B0.out.size (.cells #[.bool n1, .slice A xs.length c, .bool n2, .slice B ys.length e0] 56)) hb)
  have RX := Hd ((RX.out.alloc (.cells #[.bool n1, .slice A xs.length c, .bool n2, .slice B ys.length e0] 56)).below hb)
  have RY := Hd ((RY.out.alloc (.cells #[.bool n1, .slice A xs.length c, .bool n2, .slice B ys.length e0] 56)).below hb)
  clear B0 hb l_x a_x b_x c_x d_x
  cases b
  case false =>
    have HX := Hd (txt_bad t)
    clear H2
    go_wp2_with fail
    go_ret2
    exact ⟨by rw [HX.out.1, HX.out.2]; rfl, BB.out⟩
  case true =>
    have H3 := Hd (H2.out rfl)
    clear H2
    obtain ⟨l_x, a_x, b_x, c_x, d_x, -, -, -, -⟩ := PX.out.facts
    go_wp2_with fail
    refine (H3.out w1 RX.out RY.out).mono ?_
    rintro e w2 ⟨rfl, hb⟩
    have HF := Hd (belowTo BB.out hb)
    clear hb l_x a_x b_x c_x d_x
    by_cases hs : t.size ≤ 65536
    · have HX := Hd (txt_good hs)
      have hz : (t.size : Int) ≤ 65536 := by omega
      clear hs
      go_wp2_with fail
      go_ret2
      exact ⟨by rw [HX.out.1, HX.out.2]; rfl, HF.out⟩
    · have HX := Hd (txt_long hs)
      have hz : (65536 : Int) < (t.size : Int) := by omega
      clear hs
      go_wp2_with fail
      go_ret2
      exact ⟨by rw [HX.out.1, HX.out.2]; rfl, HF.out⟩
def RetPrsR (w : World) (T : Int → Int → Int → Prop) (e : Ending) (w' : World) : Prop := ∃ N D K, RetFrac2 w N D K e w' ∧ T N D K

theorem ref02_Parse_all (s : ByteArray) (o : Option (Int × Int)) (w : World)  (ho : s.size ≤ 65536 → ∀ V, Calls Tryz.prog 102 #[.string s] V (RetReadF V o)) (T : Int → Int → Int → Prop) (t1 : 65536 < s.size → T 0 0 4) (t2 : s.size ≤ 65536 → o = none → T 0 0 5) (t3 : s.size ≤ 65536 → ∀ p, o = some p → T (ansN p.1 p.2) (ansD p.1 p.2) (ansK p.1 p.2)) :
    Calls Tryz.prog 28 #[.string s] w (RetPrsR w T) := by
  have H0 := Hd ho
  have T1 := Hd t1
  have T2 := Hd t2
  have T3 := Hd t3
  clear ho t1 t2 t3
  have b0 := ((Below.refl w.heap.size w).alloc (Nat.le_refl _) (.cells #[.bool false, .slice none 0 0, .bool false, .slice none 0 0] 56))
  have p0 := Quad.new w (.bool false) (.slice none 0 0) (.bool false) (.slice none 0 0)
  have P_r0 := Hd p0
  have HBW := Hd b0
  clear b0 p0 
  go_enter Tryz.func28, Tryz.ntmps28
  obtain ⟨W, E⟩ : ∃ W, W = (w.alloc (.cells #[.bool false, .slice none 0 0, .bool false, .slice none 0 0] 56)) := ⟨_, rfl⟩
  go_upto_region 1 with fail
  rw [← E] at P_r0 HBW ⊢
  clear E
  by_cases hl : 65536 < s.size
  · have hz : (65536 : Int) < (s.size : Int) := by omega
    have TT := Hd (T1.out hl)
    clear T1 T2 T3 H0 hl
    obtain ⟨l_r0, a_r0, b_r0, f_r0, g_r0⟩ := P_r0.out.facts
    have HQ := Hd (P_r0.out.store (.bool false) (.slice none 0 0) (.bool false) (.slice none 0 0))
    have HB := Hd (below4 HBW.out (show w.heap.size ≤ w.heap.size by omega) (.bool false) (.slice none 0 0) (.bool false) (.slice none 0 0))
    go_wp2_with fail
    obtain ⟨_, k0, k1, k2, k3, _, _, _, _⟩ := HQ.out.facts
    exact bodyPost_ret (by simp [results, Tryz.results28, go_sem, k0, k1, k2, k3]) rfl ⟨0, 0, _, ⟨_, rfl, (FracOwn.nought _ 0).at_, HB.out⟩, TT.out⟩
  · have hz : (s.size : Int) ≤ 65536 := by omega
    have hz2 : ¬ (65536 : Int) < (s.size : Int) := by omega
    have H1 := Hd (H0.out (by omega))
    have U2 := Hd (T2.out (by omega))
    have U3 := Hd (T3.out (by omega))
    clear T1 T2 T3 H0 hl
    have hw0 := P_r0.out.blk.lt
    go_wp2_with fail
    refine (H1.out W).mono ?_
    rintro e x1 ⟨n, d, ⟨v, rfl, hF, hb⟩, hp⟩
    obtain ⟨A5, c5, A6, c6, rfl, hF1, hF2⟩ := hF.form
    have P_r0 := Hd (P_r0.out.below hb)
    have HBW := Hd (belowTo HBW.out hb)
    have ha := (Below.refl x1.heap.size x1).alloc (Nat.le_refl _) (.cells #[.bool (decide (n < 0)), .slice A5 (natL n.natAbs).length c5, .bool (decide (d < 0)), .slice A6 (natL d.natAbs).length c6] 56)
    have pp := Quad.new x1 (.bool (decide (n < 0))) (.slice A5 (natL n.natAbs).length c5) (.bool (decide (d < 0))) (.slice A6 (natL d.natAbs).length c6)
    go_upto_region 4 with fail
    obtain ⟨y1, E⟩ : ∃ Y, Y = x1.alloc (.cells #[.bool (decide (n < 0)), .slice A5 (natL n.natAbs).length c5, .bool (decide (d < 0)), .slice A6 (natL d.natAbs).length c6] 56) := ⟨_, rfl⟩
    rw [← E] at ha pp ⊢
    have P_r0 := Hd (P_r0.out.below ha)
    have HBW := Hd (belowTo HBW.out ha)
    have V_x := Hd (FV.mk pp (hF1.rawAt.below ha) (hF2.rawAt.below ha))
    have HPP := Hd hp
    obtain ⟨gx, hg⟩ : ∃ q, q = x1.heap.size := ⟨_, rfl⟩
    rw [← hg] at V_x ⊢
    clear E ha pp hb hF hF1 hF2 hp hg hw0
    cases o
    case none =>
      have TT := Hd (U2.out rfl)
      clear U2 U3 HPP
      obtain ⟨l_r0, a_r0, b_r0, f_r0, g_r0⟩ := P_r0.out.facts
      have HQ := Hd (P_r0.out.store (.bool false) (.slice none 0 0) (.bool false) (.slice none 0 0))
      have HB := Hd (below4 HBW.out (show w.heap.size ≤ w.heap.size by omega) (.bool false) (.slice none 0 0) (.bool false) (.slice none 0 0))
      go_wp2_with fail
      obtain ⟨_, k0, k1, k2, k3, _, _, _, _⟩ := HQ.out.facts
      exact bodyPost_ret (by simp [results, Tryz.results28, go_sem, k0, k1, k2, k3]) rfl ⟨0, 0, _, ⟨_, rfl, (FracOwn.nought _ 0).at_, HB.out⟩, TT.out⟩
    case some p =>
      obtain rfl := HPP.out p rfl
      have TT := Hd (U3.out (n, d) rfl)
      clear U2 U3 HPP
      obtain ⟨l_x, a_x, b_x, c_x, d_x, -, -, -, -⟩ := V_x.out.quad.facts
      go_wp2_with fail
      refine (ref02_answered n d A5 A6 c5 c6 y1 V_x.out.num V_x.out.den).mono ?_
      rintro e x2 ⟨v, rfl, hI, hb⟩
      obtain ⟨N, hN⟩ : ∃ k : Int, k = ansN n d := ⟨_, rfl⟩
      obtain ⟨D, hD⟩ : ∃ k : Int, k = ansD n d := ⟨_, rfl⟩
      obtain ⟨K, hK⟩ : ∃ k : Int, k = ansK n d := ⟨_, rfl⟩
      have TU := Hd (show T N D K by rw [hN, hD, hK]; exact TT.out)
      rw [← hN, ← hD] at hI
      rw [← hK]
      obtain ⟨A7, c7, A8, c8, rfl, -⟩ := hI.form
      have hy1 := HBW.out.size
      have P_r0 := Hd (P_r0.out.below hb)
      have HBW := Hd (belowTo HBW.out hb)
      have HI := Hd hI
      clear hI hb l_x a_x b_x c_x d_x V_x TT hN hD hK
      obtain ⟨l_r0, a_r0, b_r0, f_r0, g_r0⟩ := P_r0.out.facts
      have HQ := Hd (P_r0.out.store (.bool (decide (N < 0))) (.slice A7 (natL N.natAbs).length c7) (.bool (decide (D < 0))) (.slice A8 (natL D.natAbs).length c8))
      have HB := Hd (below4 HBW.out (show w.heap.size ≤ w.heap.size by omega) (.bool (decide (N < 0))) (.slice A7 (natL N.natAbs).length c7) (.bool (decide (D < 0))) (.slice A8 (natL D.natAbs).length c8))
      have HF9 := Hd (HI.out.quad P_r0.out (.bool (decide (N < 0))) (.slice A7 (natL N.natAbs).length c7) (.bool (decide (D < 0))) (.slice A8 (natL D.natAbs).length c8))
      go_wp2_with fail
      obtain ⟨_, k0, k1, k2, k3, _, _, _, _⟩ := HQ.out.facts
      exact bodyPost_ret (by simp [results, Tryz.results28, go_sem, k0, k1, k2, k3]) rfl ⟨N, D, K, ⟨_, rfl, HF9.out, HB.out⟩, TU.out⟩

theorem ref02_Parse (s : ByteArray) (w : World) :
    Calls Tryz.prog 28 #[.string s] w (RetFrac2 w (fprN s.data.toList) (fprD s.data.toList) (fprK s.data.toList)) := by
  have hsz : s.data.toList.length = s.size := by rw [Lib.size_eq]
  refine (ref02_Parse_all s (readF s.data.toList) w (fun hs V => ref02_Read s hs V) (fun N D K => N = fprN s.data.toList ∧ D = fprD s.data.toList ∧ K = fprK s.data.toList) ?_ ?_ ?_).mono fun e w' ⟨N, D, K, h, e1, e2, e3⟩ => by rw [← e1, ← e2, ← e3]; exact h
  · intro h
    unfold fprN fprD fprK
    rw [if_pos (by omega), if_pos (by omega), if_pos (by omega)]
    exact ⟨rfl, rfl, rfl⟩
  · intro h ho
    unfold fprN fprD fprK
    rw [if_neg (by omega), if_neg (by omega), if_neg (by omega), ho]
    exact ⟨rfl, rfl, rfl⟩
  · intro h p ho
    unfold fprN fprD fprK
    rw [if_neg (by omega), if_neg (by omega), if_neg (by omega), ho]
    exact ⟨rfl, rfl, rfl⟩

theorem fpr_lz (s : List UInt8) : lz (fprN s) ≤ 2048 ∧ lz (fprD s) ≤ 2048 := by
  unfold fprN fprD
  split
  · decide
  · split
    · decide
    · exact ans_lz _ _
theorem text_spec (n1 n2 : Bool) (xs ys : List Nat) (hx : Limbs xs) (hy : Limbs ys) : ∃ (t : ByteArray) (k : Int),
    (∀ (V : World) (A B : Option Addr) (c e0 : Nat), Raw V A c xs → Raw V B e0 ys → powTab V → Calls Tryz.prog 25 #[.agg #[.bool n1, .slice A xs.length c, .bool n2, .slice B ys.length e0]] V fun e w' => e = .returned (.tuple #[.string t, .int .i64 k]) ∧ Below V.heap.size V w') ∧
    (∀ (V : World) (A B : Option Addr) (c e0 : Nat), Raw V A c xs → Raw V B e0 ys → Calls Tryz.prog 26 #[.agg #[.bool n1, .slice A xs.length c, .bool n2, .slice B ys.length e0]] V fun e w' => e = .returned (.tuple #[.string t, .int .i64 k]) ∧ Below V.heap.size V w') := by
  cases hc : (chkE n1 n2 xs ys == 0) with
  | false => exact ⟨_, _, fun V A B c e0 h g ht => frac_Text_all n1 n2 false A B c e0 xs ys ⟨#[]⟩ hc V h g ht (fun h => by cases h), fun V A B c e0 h g => ref02_Text_all n1 n2 false A B c e0 xs ys ⟨#[]⟩ hc V h g (fun h => by cases h)⟩
  | true =>
    obtain ⟨n, d, hf, rfl, rfl, rfl, rfl⟩ := fine_of (n1 := n1) (n2 := n2) hx hy (by simpa using hc)
    exact ⟨_, _, fun V A B c e0 h g ht => frac_Text_all _ _ true A B c e0 _ _ _ hc V h g ht (fun _ V' h g ht => ratio_Digits n d A B c e0 V' h g ht hf.num hf.den), fun V A B c e0 h g => ref02_Text_all _ _ true A B c e0 _ _ _ hc V h g (fun _ V' h g => ref02_Digits n d A B c e0 V' h g (Nat.le_trans hf.num (by decide)) (Nat.le_trans hf.den (by decide)))⟩
/- lives of the laws of chapter 02: the answers that the document fixes. (Written by wip/frac/genlives3.py.) -/

theorem frac_Make_ours (n d : Int) (A B : Option Addr) (c e0 : Nat) (w : World) (h : Raw w A c (natL n.natAbs)) (g : Raw w B e0 (natL d.natAbs)) (o1 : IntOwn w 0 (.agg #[.bool (decide (n < 0)), .slice A (natL n.natAbs).length c]) n) (o2 : IntOwn w 0 (.agg #[.bool (decide (d < 0)), .slice B (natL d.natAbs).length e0]) d) (hn : Fit n) (hd : Fit d) (hd0 : d ≠ 0) :
    Calls Tryz.prog 164 #[.agg #[.bool (decide (n < 0)), .slice A (natL n.natAbs).length c], .agg #[.bool (decide (d < 0)), .slice B (natL d.natAbs).length e0]] w (RetFracOwn2 w.heap.size w (lowN n d) (lowD n d) 0) := by
  have C1 := fun (V : World) (h : Raw V A c (natL n.natAbs)) => exact_Check_any (decide (n < 0)) A c _ V h
  have C2 := fun (V : World) (h : Raw V B e0 (natL d.natAbs)) => exact_Check_any (decide (d < 0)) B e0 _ V h
  unfold errI at C1 C2
  rw [if_pos hn.ok] at C1
  rw [if_pos hd.ok] at C2
  have hln : lz n ≤ 2048 := hn
  have hld : lz d ≤ 2048 := hd
  obtain ⟨s, hs⟩ : ∃ k : Int, k = d.sign := ⟨_, rfl⟩
  have C3 := fun (V : World) (h : Raw V B e0 (natL d.natAbs)) => esign d s B e0 V h hs
  have C4 := fun (V : World) (o1 : IntOwn V 0 (.agg #[.bool (decide (n < 0)), .slice A (natL n.natAbs).length c]) n) (o2 : IntOwn V 0 (.agg #[.bool (decide (d < 0)), .slice B (natL d.natAbs).length e0]) d) => elow n d A B c e0 V o1.rawAt o2.rawAt o1 o2 (by omega) (by omega) hd0
  have hl1 : lz (lowN n d) ≤ 2048 := Nat.le_trans (lowN_lz n d) hln
  have hl2 : lz (lowD n d) ≤ 2048 := Nat.le_trans (lowD_lz n d) hld
  have C5 := fun (V : World) (A' B' : Option Addr) (c' e' : Nat) (h : Raw V A' c' (natL (lowN n d).natAbs)) (g : Raw V B' e' (natL (lowD n d).natAbs)) => frac_answered_fits (lowN n d) (lowD n d) A' B' c' e' V h g hl1 hl2
  obtain ⟨p, hp⟩ : ∃ k : Int, k = lowN n d := ⟨_, rfl⟩
  obtain ⟨q, hq⟩ : ∃ k : Int, k = lowD n d := ⟨_, rfl⟩
  rw [← hp, ← hq] at C4 C5 ⊢
  have H1 := Hd C1
  have H2 := Hd C2
  have H3 := Hd C3
  have H4 := Hd C4
  have H5 := Hd C5
  have hs1 : decide (s = 0) = false := decide_eq_false (by rw [hs]; intro e; exact hd0 (Int.sign_eq_zero_iff_zero.1 e))
  have hs0 : (s == 0) = false := by simpa using hs1
  clear C1 C2 C3 C4 C5 hn hd hd0 hs hln hld hl1 hl2 hp hq
  have px := ((Pair.new w 24 (.bool (decide (n < 0))) (.slice A (natL n.natAbs).length c)).alloc (.cells #[.bool (decide (d < 0)), .slice B (natL d.natAbs).length e0] 24)).alloc (.cells #[.bool false, .slice none 0 0, .bool false, .slice none 0 0] 56)
  have py := (Pair.new (w.alloc (.cells #[.bool (decide (n < 0)), .slice A (natL n.natAbs).length c] 24)) 24 (.bool (decide (d < 0))) (.slice B (natL d.natAbs).length e0)).alloc (.cells #[.bool false, .slice none 0 0, .bool false, .slice none 0 0] 56)
  have pr := Quad.new ((w.alloc (.cells #[.bool (decide (n < 0)), .slice A (natL n.natAbs).length c] 24)).alloc (.cells #[.bool (decide (d < 0)), .slice B (natL d.natAbs).length e0] 24)) (.bool false) (.slice none 0 0) (.bool false) (.slice none 0 0)
  have b0 := (((Below.refl w.heap.size w).alloc (Nat.le_refl _) (.cells #[.bool (decide (n < 0)), .slice A (natL n.natAbs).length c] 24)).alloc (by simp) (.cells #[.bool (decide (d < 0)), .slice B (natL d.natAbs).length e0] 24)).alloc (by simp; omega) (.cells #[.bool false, .slice none 0 0, .bool false, .slice none 0 0] 56)
  simp only [World.size_alloc] at py pr
  have OX := Hd (o1.below b0)
  have OY := Hd (o2.below b0)
  have h1 := h.below b0
  have g1 := g.below b0
  have PX := Hd px
  have PY := Hd py
  have PR := Hd pr
  have B0 := Hd b0
  have RX := Hd h1
  have RY := Hd g1
  clear px py pr b0 h g h1 g1 o1 o2
  go_enter Tryz.func164, Tryz.ntmps164
  go_wp2_with fail
  obtain ⟨W, E⟩ : ∃ W, W = ((w.alloc (.cells #[.bool (decide (n < 0)), .slice A (natL n.natAbs).length c] 24)).alloc (.cells #[.bool (decide (d < 0)), .slice B (natL d.natAbs).length e0] 24)).alloc (.cells #[.bool false, .slice none 0 0, .bool false, .slice none 0 0] 56) := ⟨_, rfl⟩
  rw [← E] at PX PY PR B0 RX RY OX OY ⊢
  clear E
  have T0 := Below.refl W.heap.size W
  obtain ⟨l0, x0, x1, -, -⟩ := (PX.out.below T0).facts
  obtain ⟨m0, y0, y1, -, -⟩ := (PY.out.below T0).facts
  go_wp2_with fail
  refine (H1.out _ (RX.out.below T0)).mono ?_
  rintro e w1 ⟨rfl, h⟩
  have T1 := belowTo T0 h
  clear h x0 x1 y0 y1 l0 m0
  obtain ⟨l1, x0, x1, -, -⟩ := (PX.out.below T1).facts
  obtain ⟨m1, y0, y1, -, -⟩ := (PY.out.below T1).facts
  go_wp2_with fail
  refine (H2.out _ (RY.out.below T1)).mono ?_
  rintro e w2 ⟨rfl, h⟩
  have T2 := belowTo T1 h
  clear h x0 x1 y0 y1 l1 m1
  obtain ⟨l2, x0, x1, -, -⟩ := (PX.out.below T2).facts
  obtain ⟨m2, y0, y1, -, -⟩ := (PY.out.below T2).facts
  go_wp2_with fail
  refine (H3.out _ (RY.out.below T2)).mono ?_
  rintro e w3 ⟨rfl, h⟩
  have T3 := belowTo T2 h
  clear h x0 x1 y0 y1 l2 m2
  obtain ⟨l3, x0, x1, -, -⟩ := (PX.out.below T3).facts
  obtain ⟨m3, y0, y1, -, -⟩ := (PY.out.below T3).facts
  go_wp2_with fail
  refine (H4.out _ (OX.out.below T3) (OY.out.below T3)).mono ?_
  rintro e w4 ⟨v, rfl, hF, h⟩
  have T4 := belowTo T3 h
  clear h x0 x1 y0 y1 l3 m3
  obtain ⟨A', c', B', e', rfl, r1, r2⟩ := hF.at_.form
  clear hF
  go_wp2_with fail
  refine (H5.out _ A' B' c' e' r1 r2).mono ?_
  rintro e w5 ⟨v, rfl, hI, h⟩
  have T5 := belowTo T4 h
  have pr2 := PR.out.below T5
  have BB := belowTo B0.out T5
  have hsz := belowTo B0.out T4
  obtain ⟨A1, c1, A2, c2, rfl, -⟩ := hI.form
  obtain ⟨l5, z0, z1, z2, z3, f0, f1, f2, f3⟩ := pr2.facts
  clear r1 r2 h
  go_wp2_with fail
  have hq := pr2.store (.bool (decide (p < 0))) (.slice A1 (natL p.natAbs).length c1) (.bool (decide (q < 0))) (.slice A2 (natL q.natAbs).length c2)
  obtain ⟨_, k0, k1, k2, k3, _⟩ := hq.facts
  have hs9 := hsz.size
  exact bodyPost_ret (by simp [results, Tryz.results164, go_sem, k0, k1, k2, k3]) rfl ⟨_, rfl, (hI.quad pr2 _ _ _ _).base hs9, below4 BB (by omega) _ _ _ _⟩

theorem frac_Make_oz (n d : Int) (A B : Option Addr) (c e0 : Nat) (w : World) (h : Raw w A c (natL n.natAbs)) (g : Raw w B e0 (natL d.natAbs)) (o1 : IntOwn w 0 (.agg #[.bool (decide (n < 0)), .slice A (natL n.natAbs).length c]) n) (o2 : IntOwn w 0 (.agg #[.bool (decide (d < 0)), .slice B (natL d.natAbs).length e0]) d) (hn : Fit n) (hd : Fit d) :
    Calls Tryz.prog 164 #[.agg #[.bool (decide (n < 0)), .slice A (natL n.natAbs).length c], .agg #[.bool (decide (d < 0)), .slice B (natL d.natAbs).length e0]] w (RetFracOwn2 w.heap.size w (zN n d) (zD n d) (zE d)) := by
  unfold zN zD zE
  by_cases hy : d = 0
  · simp only [if_pos hy]
    exact frac_Make_nought n d A B c e0 w h g hn hd hy
  · simp only [if_neg hy]
    exact frac_Make_ours n d A B c e0 w h g o1 o2 hn hd hy

theorem frac_Of_ours (n d : Int) (n1 : -9223372036854775808 ≤ n) (n2 : n ≤ 9223372036854775807) (d1 : -9223372036854775808 ≤ d) (d2 : d ≤ 9223372036854775807) (w : World) :
    Calls Tryz.prog 96 #[.int .i64 n, .int .i64 d] w (RetFracOwn2 w.heap.size w (zN n d) (zD n d) (zE d)) := by
  have fn : Fit n := (okI_true.1 (ok64' n n1 n2)).1
  have fd : Fit d := (okI_true.1 (ok64' d d1 d2)).1
  have C3 := fun (V : World) (A B : Option Addr) (c e0 : Nat) (h : Raw V A c (natL n.natAbs)) (g : Raw V B e0 (natL d.natAbs)) (o1 : IntOwn V 0 (.agg #[.bool (decide (n < 0)), .slice A (natL n.natAbs).length c]) n) (o2 : IntOwn V 0 (.agg #[.bool (decide (d < 0)), .slice B (natL d.natAbs).length e0]) d) => frac_Make_oz n d A B c e0 V h g o1 o2 fn fd
  have C1 := fun (V : World) => eof n n rfl n1 n2 V
  have C2 := fun (V : World) => eof d d rfl d1 d2 V
  obtain ⟨p, hp⟩ : ∃ k : Int, k = zN n d := ⟨_, rfl⟩
  obtain ⟨q, hq⟩ : ∃ k : Int, k = zD n d := ⟨_, rfl⟩
  obtain ⟨k, hk⟩ : ∃ k : Int, k = zE d := ⟨_, rfl⟩
  rw [← hp, ← hq, ← hk] at C3 ⊢
  have H1 := Hd C1
  have H2 := Hd C2
  have H3 := Hd C3
  clear C1 C2 C3 fn fd n1 n2 d1 d2 hp hq hk
  have pr := Quad.new w (.bool false) (.slice none 0 0) (.bool false) (.slice none 0 0)
  have b0 := (Below.refl w.heap.size w).alloc (Nat.le_refl _) (.cells #[.bool false, .slice none 0 0, .bool false, .slice none 0 0] 56)
  have PR := Hd pr
  have B0 := Hd b0
  clear pr b0
  go_enter Tryz.func96, Tryz.ntmps96
  go_wp2_with fail
  refine (H1.out _).mono ?_
  rintro e w1 ⟨v, rfl, i1, h⟩
  have T1 := belowTo B0.out h
  have p1 := PR.out.below h
  obtain ⟨A, c, rfl, r1⟩ := i1.raw
  have o1 := Hd (i1.base (Nat.zero_le _))
  clear h i1
  go_wp2_with fail
  refine (H2.out _).mono ?_
  rintro e w2 ⟨v, rfl, i2, h⟩
  have T2 := belowTo T1 h
  have p2 := p1.below h
  obtain ⟨B, e0, rfl, r2⟩ := i2.raw
  have o1 := Hd (o1.out.below h)
  have o2 := Hd (i2.base (Nat.zero_le _))
  have r3 := r1.below h
  clear h i2 r1 p1 T1
  go_wp2_with fail
  refine (H3.out _ A B c e0 r3 r2 o1.out o2.out).mono ?_
  rintro e w3 ⟨v, rfl, hI, h⟩
  have T3 := belowTo T2 h
  have p3 := p2.below h
  have hsz := T2.size
  obtain ⟨A1, c1, A2, c2, rfl, -⟩ := hI.form
  obtain ⟨l5, z0, z1, z2, z3, f0, f1, f2, f3⟩ := p3.facts
  clear h r3 r2 p2 T2
  go_wp2_with fail
  have hq := p3.store (.bool (decide (p < 0))) (.slice A1 (natL p.natAbs).length c1) (.bool (decide (q < 0))) (.slice A2 (natL q.natAbs).length c2)
  obtain ⟨_, k0, k1, k2, k3, _⟩ := hq.facts
  exact bodyPost_ret (by simp [results, Tryz.results96, go_sem, k0, k1, k2, k3]) rfl ⟨_, rfl, (hI.quad p3 _ _ _ _).base hsz, below4 T3 (by omega) _ _ _ _⟩

theorem frac_text_same : (⟨#[45, 51, 47, 50]⟩ : ByteArray) = ⟨(fracText (-3) 2).toArray⟩ := by
  have h3 : Lib.itoa (-3) = [45, 51] := by
    rw [show (-3 : Int) = -((3 : Nat) : Int) from rfl, Lib.itoa_neg _ (by decide), Lib.decDigits_one (by omega)]; rfl
  have h2 : Lib.itoa 2 = [50] := by
    rw [show (2 : Int) = ((2 : Nat) : Int) from rfl, Lib.itoa_nonneg, Lib.decDigits_one (by omega)]; rfl
  unfold fracText
  rw [if_neg (by decide), h3, h2]
  rfl

theorem lives_ours (w : World) (htab : powTab w) :
    Calls Tryz.prog 24 #[] w fun e w' => e = .returned (.bool true) ∧ Below w.heap.size w w' := by
  have C1 := fun (V : World) => frac_Of_ours 6 (-4) (by decide) (by decide) (by decide) (by decide) V
  have C2 := fun (V : World) => frac_Of_ours 1 0 (by decide) (by decide) (by decide) (by decide) V
  rw [show zN 6 (-4) = -3 by decide +kernel, show zD 6 (-4) = 2 by decide +kernel, show zE (-4) = 0 by decide] at C1
  rw [show zN 1 0 = 0 by decide +kernel, show zD 1 0 = 0 by decide +kernel, show zE 0 = 3 by decide] at C2
  obtain ⟨n, hn⟩ : ∃ k : Int, k = -3 := ⟨_, rfl⟩
  obtain ⟨d, hd⟩ : ∃ k : Int, k = 2 := ⟨_, rfl⟩
  rw [← hn, ← hd] at C1
  obtain ⟨z, hz⟩ : ∃ k : Int, k = 0 := ⟨_, rfl⟩
  have C2 : ∀ V : World, Calls Tryz.prog 96 #[.int .i64 1, .int .i64 0] V (RetFracOwn2 V.heap.size V z z 3) := by rw [hz]; exact C2
  have fn : Fit n := Fit.small (by rw [hn]; decide)
  have fd : Fit d := Fit.small (by rw [hd]; decide)
  have hc : chkE (decide (n < 0)) (decide (d < 0)) (natL n.natAbs) (natL d.natAbs) = 0 := by
    unfold chkE mkOk
    rw [fn.ok, fd.ok, ival_at, ival_at, hn, hd]
    decide +kernel
  have C3 := fun (V : World) (A B : Option Addr) (c e0 : Nat) (h : Raw V A c (natL n.natAbs)) (g : Raw V B e0 (natL d.natAbs)) (ht : powTab V) => frac_Text_good n d ⟨#[45, 51, 47, 50]⟩ A B c e0 V h g ht fn fd hc (by rw [hn, hd]; exact frac_text_same) (by decide)
  have C4 := fun (V : World) (A B : Option Addr) (c e0 : Nat) (h : Raw V A c (natL n.natAbs)) (g : Raw V B e0 (natL d.natAbs)) => frac_Sign_good n d (-1) A B c e0 V h g hc (by rw [hn]; decide)
  have H1 := Hd C1
  have H2 := Hd C2
  have H3 := Hd C3
  have H4 := Hd C4
  have HT := Hd htab
  clear C1 C2 C3 C4 fn fd hc hn hd hz htab
  go_enter Tryz.func24, Tryz.ntmps24
  go_wp2_with fail
  refine (H1.out w).mono ?_
  rintro e w1 ⟨v, rfl, hI, h1⟩
  have T1 := Hd h1
  obtain ⟨A, c, B, e0, rfl, i1, i2, -⟩ := hI.form
  obtain ⟨gx, hgx⟩ : ∃ k, k = w1.heap.size := ⟨_, rfl⟩
  obtain ⟨W, E⟩ : ∃ W, W = w1.alloc (.cells #[.bool (decide (n < 0)), .slice A (natL n.natAbs).length c, .bool (decide (d < 0)), .slice B (natL d.natAbs).length e0] 56) := ⟨_, rfl⟩
  have px := Quad.new w1 (.bool (decide (n < 0))) (.slice A (natL n.natAbs).length c) (.bool (decide (d < 0))) (.slice B (natL d.natAbs).length e0)
  have r1 := i1.rawAt.alloc (.cells #[.bool (decide (n < 0)), .slice A (natL n.natAbs).length c, .bool (decide (d < 0)), .slice B (natL d.natAbs).length e0] 56)
  have r2 := i2.rawAt.alloc (.cells #[.bool (decide (n < 0)), .slice A (natL n.natAbs).length c, .bool (decide (d < 0)), .slice B (natL d.natAbs).length e0] 56)
  have T2 := T1.out.alloc T1.out.size (.cells #[.bool (decide (n < 0)), .slice A (natL n.natAbs).length c, .bool (decide (d < 0)), .slice B (natL d.natAbs).length e0] 56)
  clear hI i1 i2 h1
  go_upto_region 2 with fail
  rw [← E, ← hgx] at px ⊢
  rw [← E] at r1 r2 T2
  have PX := Hd px
  have R1 := Hd r1
  have R2 := Hd r2
  have T2 := Hd T2
  clear E hgx px r1 r2 T1
  go_wp2_with fail
  refine (H2.out W).mono ?_
  rintro e w2 ⟨v, rfl, hI, h2⟩
  obtain ⟨A9, c9, B9, e9, rfl, -⟩ := hI.form
  obtain ⟨Y, E⟩ : ∃ Y, Y = w2.alloc (.cells #[.bool (decide (z < 0)), .slice A9 (natL z.natAbs).length c9, .bool (decide (z < 0)), .slice B9 (natL z.natAbs).length e9] 56) := ⟨_, rfl⟩
  have h3 := h2.alloc h2.size (.cells #[.bool (decide (z < 0)), .slice A9 (natL z.natAbs).length c9, .bool (decide (z < 0)), .slice B9 (natL z.natAbs).length e9] 56)
  go_upto_region 3 with fail
  rw [← E] at h3 ⊢
  have PX := Hd (PX.out.below h3)
  have R1 := Hd (R1.out.below h3)
  have R2 := Hd (R2.out.below h3)
  have T3 := Hd (belowTo T2.out h3)
  have HT := Hd (HT.out.below2 T3.out)
  clear E hI h2 h3 T2
  obtain ⟨l_x, a_x, b_x, c_x, d_x, -, -, -, -⟩ := PX.out.facts
  go_wp2_with fail
  refine (H3.out Y A B c e0 R1.out R2.out HT.out).mono ?_
  rintro e w3 ⟨rfl, h4⟩
  have PX := Hd (PX.out.below h4)
  have R1 := Hd (R1.out.below h4)
  have R2 := Hd (R2.out.below h4)
  have T4 := Hd (belowTo T3.out h4)
  clear h4 T3 HT l_x a_x b_x c_x d_x
  obtain ⟨l_x, a_x, b_x, c_x, d_x, -, -, -, -⟩ := PX.out.facts
  go_wp2_with fail
  refine (H4.out w3 A B c e0 R1.out R2.out).mono ?_
  rintro e w4 ⟨rfl, h5⟩
  have HF := Hd (belowTo T4.out h5)
  clear h5 T4 l_x a_x b_x c_x d_x
  go_wp2_with fail
  go_ret
  exact ⟨rfl, HF.out⟩
end Go.Proofs.YtkncbenhfcpgkaaGreatDoor
