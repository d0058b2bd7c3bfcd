/- Several texts in one: FTextsW. -/
import Derived.Test.YtkncbenhfcpgkaaGreatDoorPu49
import Derived.Test.YtkncbenhfcpgkaaGreatDoorPuHd
import Derived.Test.YtkncbenhfcpgkaaGreatDoorPu31
import Derived.Test.YtkncbenhfcpgkaaGreatDoorPu29
import Derived.Test.YtkncbenhfcpgkaaGreatDoorPu43
import Derived.Test.YtkncbenhfcpgkaaGreatDoorPu27
import Derived.Test.YtkncbenhfcpgkaaGreatDoorPu25
import Derived.Test.YtkncbenhfcpgkaaGreatDoorPu18
import Derived.Test.YtkncbenhfcpgkaaGreatDoorPu19
import Derived.Test.YtkncbenhfcpgkaaGreatDoorPu14
import Derived.Test.YtkncbenhfcpgkaaGreatDoorPu23
import Derived.Test.YtkncbenhfcpgkaaGreatDoorPu08
import Derived.Test.YtkncbenhfcpgkaaGreatDoorPu39
import Derived.Test.YtkncbenhfcpgkaaGreatDoorPu07
import Derived.Test.YtkncbenhfcpgkaaGreatDoorPu22
import Derived.Test.YtkncbenhfcpgkaaGreatDoorPu05
import Derived.Test.YtkncbenhfcpgkaaGreatDoorPu04
import Derived.Test.YtkncbenhfcpgkaaGreatDoorPu01
import Derived.Test.YtkncbenhfcpgkaaGreatDoorPu03
import Derived.Test.YtkncbenhfcpgkaaGreatDoorPu02
import Derived.Test.YtkncbenhfcpgkaaGreatDoorPu06
import Derived.Test.YtkncbenhfcpgkaaGreatDoorPu11
import Derived.Test.YtkncbenhfcpgkaaGreatDoorPu13
import Derived.Test.YtkncbenhfcpgkaaGreatDoorPu12
import Derived.Test.YtkncbenhfcpgkaaGreatDoorPu16
import Derived.Test.YtkncbenhfcpgkaaGreatDoorPu24
import Derived.Test.YtkncbenhfcpgkaaGreatDoorPu17
import Derived.Test.YtkncbenhfcpgkaaGreatDoorPu15
import Derived.Test.YtkncbenhfcpgkaaGreatDoorPu09
import Derived.Test.YtkncbenhfcpgkaaGreatDoorPu26
import Derived.Test.YtkncbenhfcpgkaaGreatDoorPu42
import Derived.Test.YtkncbenhfcpgkaaGreatDoorPu28
import Derived.Test.YtkncbenhfcpgkaaGreatDoorPu20
import Derived.Test.YtkncbenhfcpgkaaGreatDoorPu30
import Derived.Test.YtkncbenhfcpgkaaGreatDoorPu47
import Derived.Test.YtkncbenhfcpgkaaGreatDoorPu48
import Derived.Test.YtkncbenhfcpgkaaGreatDoorPu44
import Derived.Test.YtkncbenhfcpgkaaGreatDoorPu10
import Derived.Test.YtkncbenhfcpgkaaGreatDoorPu46
import Derived.Test.YtkncbenhfcpgkaaGreatDoorPu45
set_option maxRecDepth 100000
set_option maxHeartbeats 8000000
/- FracTexts: the walk. (Written by wip/frac/genftextsw.py.) -/
namespace Go.Proofs.YtkncbenhfcpgkaaGreatDoor
open Go.RowKit

theorem ftexts_true (n1 n2 : Bool) (A B : Option Addr) (c e0 : Nat) (xs ys : List Nat) (s : ByteArray) (w : World) (h : Raw w A c xs) (g : Raw w B e0 ys) (htab : powTab w) (hx : xs.length ≤ 1152921504606846975) (hy : ys.length ≤ 1152921504606846975) (hz : s.size ≤ 4611686018427387903) :
    Calls Tryz.prog 5 #[.agg #[.bool n1, .slice A xs.length c, .bool n2, .slice B ys.length e0], .string s] w fun e w' => e = .returned (.bool true) ∧ Below w.heap.size w w' := by
  have px := Quad.new w (.bool n1) (.slice A xs.length c) (.bool n2) (.slice B ys.length e0)
  have b0 := (Below.refl w.heap.size w).alloc (Nat.le_refl _) (.cells #[.bool n1, .slice A xs.length c, .bool n2, .slice B ys.length e0] 56)
  have C1 := fun (V : World) (h : Raw V A c xs) (g : Raw V B e0 ys) => frac_cost n1 n2 A B c e0 xs ys hx hy V h g
  have hs1 := fcost_le hx hy
  obtain ⟨s1, e1⟩ : ∃ k : Nat, k = fcost xs.length ys.length := ⟨_, rfl⟩
  rw [← e1] at C1 hs1
  obtain ⟨b, hb⟩ : ∃ b : Bool, b = decide (1048576 < [s1, s.size].sum) := ⟨_, rfl⟩
  have HLEN := Hd (show b = false → xs.length ≤ 1048576 ∧ ys.length ≤ 1048576 from by
    intro e
    rw [e] at hb
    have := of_decide_eq_false hb.symm
    unfold fcost at e1
    simp at this
    omega)
  have H2 := Hd (fun (u : Value) (V : World) (h : SliceOf [s1, s.size] u V) => beyond_of2 [s1, s.size] b (by simp) (by simp; omega) hb u V h)
  have H1 := Hd C1
  obtain ⟨t, k, D1, D2⟩ := text_spec n1 n2 xs ys h.limbs g.limbs
  have hl2 := fpr_lz s.data.toList
  have D3 := fun (V : World) => frac_Parse s V
  have D4 := fun (V : World) => ref02_Parse s V
  obtain ⟨r, hr⟩ : ∃ k : Int, k = fprN s.data.toList := ⟨_, rfl⟩
  obtain ⟨u, hu⟩ : ∃ k : Int, k = fprD s.data.toList := ⟨_, rfl⟩
  obtain ⟨m, hm⟩ : ∃ k : Int, k = fprK s.data.toList := ⟨_, rfl⟩
  rw [← hr, ← hu, ← hm] at D3 D4
  rw [← hr, ← hu] at hl2
  have HL2 := Hd hl2
  have H3 := Hd D1
  have H4 := Hd D2
  have H5 := Hd D3
  have H6 := Hd D4
  have PX := Hd px
  have RX := Hd (h.below b0)
  have RY := Hd (g.below b0)
  have HT := Hd (htab.below2 b0)
  have HB := Hd b0
  clear px b0 h g htab hx hy hz C1 hs1 e1 hb hl2 hr hu hm D1 D2 D3 D4
  go_enter Tryz.func5, Tryz.ntmps5
  go_upto_region 1 with fail
  obtain ⟨W, E⟩ : ∃ W, W = w.alloc (.cells #[.bool n1, .slice A xs.length c, .bool n2, .slice B ys.length e0] 56) := ⟨_, rfl⟩
  rw [← E] at PX RX RY HT HB ⊢
  clear E
  obtain ⟨l_x, x0, x1, x2, x3, -, -, -, -⟩ := PX.out.facts
  go_wp2_with fail
  refine (H1.out W RX.out RY.out).mono ?_
  rintro e wx1 ⟨rfl, hb⟩
  clear l_x x0 x1 x2 x3
  have HS_wx1 := Hd (show W.heap.size ≤ wx1.heap.size from hb.size)
  have PX := Hd (PX.out.below hb)
  have RX := Hd (RX.out.below hb)
  have RY := Hd (RY.out.below hb)
  have HT := Hd (HT.out.below2 hb)
  have HB := Hd (belowTo HB.out hb)
  go_wp2_with fail
  refine (H2.out _ _ (SliceOf.new [s1, s.size] 3 wx1 _ rfl)).mono ?_
  rintro e wz ⟨rfl, hb⟩
  have hb := ((Below.refl wx1.heap.size wx1).alloc (Nat.le_refl _) (.cells #[.int .i64 (s1 : Int), .int .i64 (s.size : Int)] 3)).trans (hb.mono (by simp))
  have PX := Hd (PX.out.below hb)
  have RX := Hd (RX.out.below hb)
  have RY := Hd (RY.out.below hb)
  have HT := Hd (HT.out.below2 hb)
  have HB := Hd (belowTo HB.out hb)
  clear hb H1 H2
  cases b
  case true =>
    go_wp2_with fail
    go_ret
    exact ⟨rfl, HB.out⟩
  have HL := Hd (HLEN.out rfl)
  clear HLEN
  obtain ⟨l_x, x0, x1, x2, x3, -, -, -, -⟩ := PX.out.facts
  go_wp2_with fail
  refine (twin_frac n1 n2 A B c e0 xs ys wz RX.out RY.out HL.out.1 HL.out.2).mono ?_
  rintro e wx2 ⟨v, rfl, ht, hb⟩
  clear l_x x0 x1 x2 x3
  obtain ⟨g1, g2, rfl, t1, t2⟩ := ht.form
  have T1 := Hd t1
  have T2 := Hd t2
  clear ht t1 t2
  have HS_wx2 := Hd (show wz.heap.size ≤ wx2.heap.size from hb.size)
  have PX := Hd (PX.out.below hb)
  have RX := Hd (RX.out.below hb)
  have RY := Hd (RY.out.below hb)
  have HT := Hd (HT.out.below2 hb)
  have HB := Hd (belowTo HB.out hb)
  have ha := (Below.refl wx2.heap.size wx2).alloc (Nat.le_refl _) (.cells #[.bool n1, .slice (some ⟨g1, 0, none⟩) xs.length (xs.length + 1), .bool n2, .slice (some ⟨g2, 0, none⟩) ys.length (ys.length + 1)] 56)
  have hn := Quad.new wx2 (.bool n1) (.slice (some ⟨g1, 0, none⟩) xs.length (xs.length + 1)) (.bool n2) (.slice (some ⟨g2, 0, none⟩) ys.length (ys.length + 1))
  have hz : (wx2.alloc (.cells #[.bool n1, .slice (some ⟨g1, 0, none⟩) xs.length (xs.length + 1), .bool n2, .slice (some ⟨g2, 0, none⟩) ys.length (ys.length + 1)] 56)).heap.size = wx2.heap.size + 1 := by simp
  go_upto_region 4 with fail
  obtain ⟨wy3, E⟩ : ∃ W, W = wx2.alloc (.cells #[.bool n1, .slice (some ⟨g1, 0, none⟩) xs.length (xs.length + 1), .bool n2, .slice (some ⟨g2, 0, none⟩) ys.length (ys.length + 1)] 56) := ⟨_, rfl⟩
  obtain ⟨q3, hq⟩ : ∃ q, q = wx2.heap.size := ⟨_, rfl⟩
  rw [← E] at ha
  rw [← E, ← hq] at hn hz ⊢
  have HZ_wy3 := Hd (And.intro hq hz)
  have P1 := Hd hn
  have PX := Hd (PX.out.below ha)
  have RX := Hd (RX.out.below ha)
  have RY := Hd (RY.out.below ha)
  have HT := Hd (HT.out.below2 ha)
  have T1 := Hd (T1.out.below ha)
  have T2 := Hd (T2.out.below ha)
  have HB := Hd (belowTo HB.out ha)
  clear ha hn hz hq E
  have RA := Hd (T1.out.raw RX.out.limbs (by have := HL.out; omega))
  have RB := Hd (T2.out.raw RY.out.limbs (by have := HL.out; omega))
  have B_P1 := P1
  have B_PX := PX
  have B_T1 := T1
  have B_T2 := T2
  have B_RX := RX
  have B_RY := RY
  have B_HT := HT
  have B_HB := HB
  have HY := Hd (Below.refl wy3.heap.size wy3)
  obtain ⟨l_x, x0, x1, x2, x3, -, -, -, -⟩ := P1.out.facts
  go_wp2_with fail
  refine (H3.out wy3 (some ⟨g1, 0, none⟩) (some ⟨g2, 0, none⟩) (xs.length + 1) (ys.length + 1) RA.out RB.out HT.out).mono ?_
  rintro e wx4 ⟨rfl, hb⟩
  clear l_x x0 x1 x2 x3
  have HS_wx4 := Hd (show wy3.heap.size ≤ wx4.heap.size from hb.size)
  have PX := Hd (PX.out.below hb)
  have RX := Hd (RX.out.below hb)
  have RY := Hd (RY.out.below hb)
  have HT := Hd (HT.out.below2 hb)
  have T1 := Hd (T1.out.below hb)
  have T2 := Hd (T2.out.below hb)
  have P1 := Hd (P1.out.below hb)
  have RA := Hd (RA.out.below hb)
  have RB := Hd (RB.out.below hb)
  have HB := Hd (belowTo HB.out hb)
  have HY := Hd (belowTo HY.out hb)
  obtain ⟨l_x, x0, x1, x2, x3, -, -, -, -⟩ := PX.out.facts
  go_wp2_with fail
  refine (H4.out wx4 A B c e0 RX.out RY.out).mono ?_
  rintro e wx5 ⟨rfl, hb⟩
  clear l_x x0 x1 x2 x3
  have HS_wx5 := Hd (show wx4.heap.size ≤ wx5.heap.size from hb.size)
  have PX := Hd (PX.out.below hb)
  have RX := Hd (RX.out.below hb)
  have RY := Hd (RY.out.below hb)
  have HT := Hd (HT.out.below2 hb)
  have T1 := Hd (T1.out.below hb)
  have T2 := Hd (T2.out.below hb)
  have P1 := Hd (P1.out.below hb)
  have RA := Hd (RA.out.below hb)
  have RB := Hd (RB.out.below hb)
  have HB := Hd (belowTo HB.out hb)
  have HY := Hd (belowTo HY.out hb)
  go_wp2_with fail
  refine (H5.out wx5).mono ?_
  rintro e wx6 ⟨v, rfl, hI, hb⟩
  obtain ⟨A3, c3, B3, e3, rfl, -⟩ := hI.form
  have O_VA := Hd hI
  clear hI
  have HS_wx6 := Hd (show wx5.heap.size ≤ wx6.heap.size from hb.size)
  have PX := Hd (PX.out.below hb)
  have RX := Hd (RX.out.below hb)
  have RY := Hd (RY.out.below hb)
  have HT := Hd (HT.out.below2 hb)
  have T1 := Hd (T1.out.below hb)
  have T2 := Hd (T2.out.below hb)
  have P1 := Hd (P1.out.below hb)
  have RA := Hd (RA.out.below hb)
  have RB := Hd (RB.out.below hb)
  have HB := Hd (belowTo HB.out hb)
  have HY := Hd (belowTo HY.out hb)
  have ha := (Below.refl wx6.heap.size wx6).alloc (Nat.le_refl _) (.cells #[.bool (decide (r < 0)), .slice A3 (natL r.natAbs).length c3, .bool (decide (u < 0)), .slice B3 (natL u.natAbs).length e3] 56)
  have hn := FVar.new O_VA.out
  have hz : (wx6.alloc (.cells #[.bool (decide (r < 0)), .slice A3 (natL r.natAbs).length c3, .bool (decide (u < 0)), .slice B3 (natL u.natAbs).length e3] 56)).heap.size = wx6.heap.size + 1 := by simp
  go_upto_region 7 with fail
  obtain ⟨wy7, E⟩ : ∃ W, W = wx6.alloc (.cells #[.bool (decide (r < 0)), .slice A3 (natL r.natAbs).length c3, .bool (decide (u < 0)), .slice B3 (natL u.natAbs).length e3] 56) := ⟨_, rfl⟩
  obtain ⟨q7, hq⟩ : ∃ q, q = wx6.heap.size := ⟨_, rfl⟩
  rw [← E] at ha
  rw [← E, ← hq] at hn hz ⊢
  have HZ_wy7 := Hd (And.intro hq hz)
  have VA := Hd hn
  have PX := Hd (PX.out.below ha)
  have RX := Hd (RX.out.below ha)
  have RY := Hd (RY.out.below ha)
  have HT := Hd (HT.out.below2 ha)
  have T1 := Hd (T1.out.below ha)
  have T2 := Hd (T2.out.below ha)
  have P1 := Hd (P1.out.below ha)
  have RA := Hd (RA.out.below ha)
  have RB := Hd (RB.out.below ha)
  have HB := Hd (belowTo HB.out ha)
  have HY := Hd (belowTo HY.out ha)
  clear ha hn hz hq E
  go_wp2_with fail
  refine (H5.out wy7).mono ?_
  rintro e wx8 ⟨v, rfl, hI, hb⟩
  obtain ⟨A4, c4, B4, e4, rfl, -⟩ := hI.form
  have O_VB := Hd hI
  clear hI
  have HS_wx8 := Hd (show wy7.heap.size ≤ wx8.heap.size from hb.size)
  have PX := Hd (PX.out.below hb)
  have RX := Hd (RX.out.below hb)
  have RY := Hd (RY.out.below hb)
  have HT := Hd (HT.out.below2 hb)
  have T1 := Hd (T1.out.below hb)
  have T2 := Hd (T2.out.below hb)
  have P1 := Hd (P1.out.below hb)
  have RA := Hd (RA.out.below hb)
  have RB := Hd (RB.out.below hb)
  have VA := Hd (VA.out.below hb)
  have HB := Hd (belowTo HB.out hb)
  have HY := Hd (belowTo HY.out hb)
  have ha := (Below.refl wx8.heap.size wx8).alloc (Nat.le_refl _) (.cells #[.bool (decide (r < 0)), .slice A4 (natL r.natAbs).length c4, .bool (decide (u < 0)), .slice B4 (natL u.natAbs).length e4] 56)
  have hn := FVar.new O_VB.out
  have hz : (wx8.alloc (.cells #[.bool (decide (r < 0)), .slice A4 (natL r.natAbs).length c4, .bool (decide (u < 0)), .slice B4 (natL u.natAbs).length e4] 56)).heap.size = wx8.heap.size + 1 := by simp
  go_upto_region 8 with fail
  obtain ⟨wy9, E⟩ : ∃ W, W = wx8.alloc (.cells #[.bool (decide (r < 0)), .slice A4 (natL r.natAbs).length c4, .bool (decide (u < 0)), .slice B4 (natL u.natAbs).length e4] 56) := ⟨_, rfl⟩
  obtain ⟨q9, hq⟩ : ∃ q, q = wx8.heap.size := ⟨_, rfl⟩
  rw [← E] at ha
  rw [← E, ← hq] at hn hz ⊢
  have HZ_wy9 := Hd (And.intro hq hz)
  have VB := Hd hn
  have PX := Hd (PX.out.below ha)
  have RX := Hd (RX.out.below ha)
  have RY := Hd (RY.out.below ha)
  have HT := Hd (HT.out.below2 ha)
  have T1 := Hd (T1.out.below ha)
  have T2 := Hd (T2.out.below ha)
  have P1 := Hd (P1.out.below ha)
  have RA := Hd (RA.out.below ha)
  have RB := Hd (RB.out.below ha)
  have VA := Hd (VA.out.below ha)
  have HB := Hd (belowTo HB.out ha)
  have HY := Hd (belowTo HY.out ha)
  clear ha hn hz hq E
  go_wp2_with fail
  refine (H6.out wy9).mono ?_
  rintro e wx10 ⟨v, rfl, hI, hb⟩
  obtain ⟨A5, c5, B5, e5, rfl, r1, r2⟩ := hI.form
  have O_VW := Hd (And.intro r1 r2)
  clear hI r1 r2
  have HS_wx10 := Hd (show wy9.heap.size ≤ wx10.heap.size from hb.size)
  have PX := Hd (PX.out.below hb)
  have RX := Hd (RX.out.below hb)
  have RY := Hd (RY.out.below hb)
  have HT := Hd (HT.out.below2 hb)
  have T1 := Hd (T1.out.below hb)
  have T2 := Hd (T2.out.below hb)
  have P1 := Hd (P1.out.below hb)
  have RA := Hd (RA.out.below hb)
  have RB := Hd (RB.out.below hb)
  have VA := Hd (VA.out.below hb)
  have VB := Hd (VB.out.below hb)
  have HB := Hd (belowTo HB.out hb)
  have HY := Hd (belowTo HY.out hb)
  have ha := (Below.refl wx10.heap.size wx10).alloc (Nat.le_refl _) (.cells #[.bool (decide (r < 0)), .slice A5 (natL r.natAbs).length c5, .bool (decide (u < 0)), .slice B5 (natL u.natAbs).length e5] 56)
  have hn := FV.new O_VW.out.1 O_VW.out.2
  have hz : (wx10.alloc (.cells #[.bool (decide (r < 0)), .slice A5 (natL r.natAbs).length c5, .bool (decide (u < 0)), .slice B5 (natL u.natAbs).length e5] 56)).heap.size = wx10.heap.size + 1 := by simp
  go_upto_region 9 with fail
  obtain ⟨wy11, E⟩ : ∃ W, W = wx10.alloc (.cells #[.bool (decide (r < 0)), .slice A5 (natL r.natAbs).length c5, .bool (decide (u < 0)), .slice B5 (natL u.natAbs).length e5] 56) := ⟨_, rfl⟩
  obtain ⟨q11, hq⟩ : ∃ q, q = wx10.heap.size := ⟨_, rfl⟩
  rw [← E] at ha
  rw [← E, ← hq] at hn hz ⊢
  have HZ_wy11 := Hd (And.intro hq hz)
  have VW := Hd hn
  have PX := Hd (PX.out.below ha)
  have RX := Hd (RX.out.below ha)
  have RY := Hd (RY.out.below ha)
  have HT := Hd (HT.out.below2 ha)
  have T1 := Hd (T1.out.below ha)
  have T2 := Hd (T2.out.below ha)
  have P1 := Hd (P1.out.below ha)
  have RA := Hd (RA.out.below ha)
  have RB := Hd (RB.out.below ha)
  have VA := Hd (VA.out.below ha)
  have VB := Hd (VB.out.below ha)
  have HB := Hd (belowTo HB.out ha)
  have HY := Hd (belowTo HY.out ha)
  clear ha hn hz hq E
  obtain ⟨l_a, a0, a1, a2, a3, -, -, -, -⟩ := VA.out.quad.facts
  obtain ⟨l_b, b0, b1, b2, b3, -, -, -, -⟩ := VW.out.quad.facts
  go_wp2_with fail
  refine (sameFrac_true _ _ _ _ wy11 VA.out.at_ VW.out.at_).mono ?_
  rintro e wx12 ⟨rfl, hb⟩
  clear l_a a0 a1 a2 a3 l_b b0 b1 b2 b3
  have HS_wx12 := Hd (show wy11.heap.size ≤ wx12.heap.size from hb.size)
  have PX := Hd (PX.out.below hb)
  have RX := Hd (RX.out.below hb)
  have RY := Hd (RY.out.below hb)
  have HT := Hd (HT.out.below2 hb)
  have T1 := Hd (T1.out.below hb)
  have T2 := Hd (T2.out.below hb)
  have P1 := Hd (P1.out.below hb)
  have RA := Hd (RA.out.below hb)
  have RB := Hd (RB.out.below hb)
  have VA := Hd (VA.out.below hb)
  have VB := Hd (VB.out.below hb)
  have VW := Hd (VW.out.below hb)
  have HB := Hd (belowTo HB.out hb)
  have HY := Hd (belowTo HY.out hb)
  obtain ⟨l_a, a0, a1, a2, a3, -, -, -, -⟩ := VB.out.quad.facts
  obtain ⟨l_b, b0, b1, b2, b3, -, -, -, -⟩ := VW.out.quad.facts
  go_wp2_with fail
  refine (sameFrac_true _ _ _ _ wx12 VB.out.at_ VW.out.at_).mono ?_
  rintro e wx13 ⟨rfl, hb⟩
  clear l_a a0 a1 a2 a3 l_b b0 b1 b2 b3
  have HS_wx13 := Hd (show wx12.heap.size ≤ wx13.heap.size from hb.size)
  have PX := Hd (PX.out.below hb)
  have RX := Hd (RX.out.below hb)
  have RY := Hd (RY.out.below hb)
  have HT := Hd (HT.out.below2 hb)
  have T1 := Hd (T1.out.below hb)
  have T2 := Hd (T2.out.below hb)
  have P1 := Hd (P1.out.below hb)
  have RA := Hd (RA.out.below hb)
  have RB := Hd (RB.out.below hb)
  have VA := Hd (VA.out.below hb)
  have VB := Hd (VB.out.below hb)
  have VW := Hd (VW.out.below hb)
  have HB := Hd (belowTo HB.out hb)
  have HY := Hd (belowTo HY.out hb)
  have HR := Hd (show RowsIn wx13 wy3.heap.size [.slice A3 (natL r.natAbs).length c3, .slice B3 (natL u.natAbs).length e3, .slice A4 (natL r.natAbs).length c4, .slice B4 (natL u.natAbs).length e4] wx13.heap.size from by
    have k_HS_wx2 := HS_wx2.out
    have k_HZ_wy3 := HZ_wy3.out
    have k_HS_wx4 := HS_wx4.out
    have k_HS_wx5 := HS_wx5.out
    have k_HS_wx6 := HS_wx6.out
    have k_HZ_wy7 := HZ_wy7.out
    have k_HS_wx8 := HS_wx8.out
    have k_HZ_wy9 := HZ_wy9.out
    have k_HS_wx10 := HS_wx10.out
    have k_HZ_wy11 := HZ_wy11.out
    have k_HS_wx12 := HS_wx12.out
    have k_HS_wx13 := HS_wx13.out
    have kb := HY.out.size
    have z0 := RowsIn.nil wx13 wy3.heap.size
    have z1 := (z0.up (hi' := wx5.heap.size) (by omega)).frac VA.out (by have := HL2.out; omega) (by have := HL2.out; omega) (by omega)
    have z2 := (z1.up (hi' := wy7.heap.size) (by omega)).frac VB.out (by have := HL2.out; omega) (by have := HL2.out; omega) (by omega)
    exact z2.up (by omega))
  clear HS_wx2 HZ_wy3 HS_wx4 HS_wx5 HS_wx6 HZ_wy7 HS_wx8 HZ_wy9 HS_wx10 HZ_wy11 HS_wx12 HS_wx13
  go_upto_region 12 with fail
  obtain ⟨v0, E⟩ : ∃ W, W = wx13.alloc (.cells #[.int .i64 0, .slice none 0 0, .slice none 0 0, .slice none 0 0, .slice none 0 0, .slice none 0 0, .slice none 0 0, .slice none 0 0, .slice none 0 0, .slice none 0 0, .slice none 0 0, .slice none 0 0, .slice none 0 0, .slice none 0 0, .slice none 0 0, .slice none 0 0, .slice none 0 0] 51) := ⟨_, rfl⟩
  have hk0 : Keep v0 wx13.heap.size 0 (fun _ => nilS) nilS := by rw [E]; exact Keep.new wx13 _
  have hW0 := Hd (show Below wx13.heap.size wx13 v0 from by rw [E]; exact (Below.refl _ _).alloc (Nat.le_refl _) _)
  rw [← E]
  obtain ⟨b, hbb⟩ : ∃ b, b = wx13.heap.size := ⟨_, rfl⟩
  rw [← hbb] at hk0 ⊢
  have HBB := Hd hbb
  have K0 := Hd hk0
  clear E hk0 hbb
  obtain ⟨l_1, u1, u2, u3, u4, -, -, -, -⟩ := (VA.out.quad.below hW0.out).facts
  go_wp2_with fail
  refine (book_Frac b 0 (fun _ => nilS) nilS (decide (r < 0)) (decide (u < 0)) A3 B3 (natL r.natAbs).length c3 (natL u.natAbs).length e3 (by omega) _ K0.out).mono ?_
  rintro e v1 ⟨rfl, lims1, hk, hb⟩
  have hW1 := Hd (hW0.out.trans (HBB.out ▸ hb))
  have K1 := Hd hk
  clear l_1 u1 u2 u3 u4 hk hb K0
  obtain ⟨l_1, u1, u2, u3, u4, -, -, -, -⟩ := (VB.out.quad.below hW1.out).facts
  go_wp2_with fail
  refine (book_Frac b 2 (updV (updV (fun _ => nilS) 0 (.slice A3 (natL r.natAbs).length c3)) (0 + 1) (.slice B3 (natL u.natAbs).length e3)) lims1 (decide (r < 0)) (decide (u < 0)) A4 B4 (natL r.natAbs).length c4 (natL u.natAbs).length e4 (by omega) _ K1.out).mono ?_
  rintro e v2 ⟨rfl, lims2, hk, hb⟩
  have hW2 := Hd (hW1.out.trans (HBB.out ▸ hb))
  have K2 := Hd hk
  clear l_1 u1 u2 u3 u4 hk hb K1
  have HF := Hd (apart_in b wy3.heap.size [.slice A3 (natL r.natAbs).length c3, .slice B3 (natL u.natAbs).length e3, .slice A4 (natL r.natAbs).length c4, .slice B4 (natL u.natAbs).length e4] lims2 wy3 v2 (by simp) (by simp) (K2.out.cong (fun j hj => by
    rcases (by omega : j = 0 ∨ j = 1 ∨ j = 2 ∨ j = 3) with rfl | rfl | rfl | rfl <;> rfl)) (by rw [HBB.out]; exact HR.out.below hW2.out) (belowTo HY.out hW2.out))
  clear HR K2
  go_wp2_with fail
  refine HF.out.mono ?_
  rintro e w1 ⟨rfl, hb1⟩
  clear PX RX RY HT T1 T2 P1 RA RB VA VB VW HY HB HF hW0 hW1 hW2 HBB
  have P1 := Hd (B_P1.out.below hb1)
  have PX := Hd (B_PX.out.below hb1)
  have T1 := Hd (B_T1.out.below hb1)
  have T2 := Hd (B_T2.out.below hb1)
  have RX := Hd (B_RX.out.below hb1)
  have RY := Hd (B_RY.out.below hb1)
  have HT := Hd (B_HT.out.below2 hb1)
  have HB := Hd (belowTo B_HB.out hb1)
  clear hb1 B_P1 B_PX B_T1 B_T2 B_RX B_RY B_HT B_HB
  obtain ⟨l_t, t0, t1, t2, t3, -, -, -, -⟩ := P1.out.facts
  obtain ⟨l_x, x0, x1, x2, x3, -, -, -, -⟩ := PX.out.facts
  go_wp2_with fail
  refine (left_frac n1 n2 A B c e0 xs ys g1 g2 w1 RX.out RY.out T1.out T2.out HL.out.1 HL.out.2).mono ?_
  rintro e wx14 ⟨rfl, hb⟩
  clear l_t t0 t1 t2 t3 l_x x0 x1 x2 x3
  have HS_wx14 := Hd (show w1.heap.size ≤ wx14.heap.size from hb.size)
  have P1 := Hd (P1.out.below hb)
  have PX := Hd (PX.out.below hb)
  have T1 := Hd (T1.out.below hb)
  have T2 := Hd (T2.out.below hb)
  have RX := Hd (RX.out.below hb)
  have RY := Hd (RY.out.below hb)
  have HT := Hd (HT.out.below2 hb)
  have HB := Hd (belowTo HB.out hb)
  go_wp2_with fail
  refine (lives_ours wx14 HT.out).mono ?_
  rintro e wx15 ⟨rfl, hb⟩
  have HS_wx15 := Hd (show wx14.heap.size ≤ wx15.heap.size from hb.size)
  have P1 := Hd (P1.out.below hb)
  have PX := Hd (PX.out.below hb)
  have T1 := Hd (T1.out.below hb)
  have T2 := Hd (T2.out.below hb)
  have RX := Hd (RX.out.below hb)
  have RY := Hd (RY.out.below hb)
  have HT := Hd (HT.out.below2 hb)
  have HB := Hd (belowTo HB.out hb)
  go_wp2_with fail
  go_ret
  exact ⟨rfl, HB.out⟩
end Go.Proofs.YtkncbenhfcpgkaaGreatDoor
