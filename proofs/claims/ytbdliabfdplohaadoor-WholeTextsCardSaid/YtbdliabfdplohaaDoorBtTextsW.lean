/- Several texts in one: TextsW. -/
import Derived.Test.YtbdliabfdplohaaDoorBt30
import Derived.Test.YtbdliabfdplohaaDoorBtHd
import Derived.Test.YtbdliabfdplohaaDoorBt31
import Derived.Test.YtbdliabfdplohaaDoorBt27
import Derived.Test.YtbdliabfdplohaaDoorBt37
set_option maxRecDepth 100000
set_option maxHeartbeats 8000000
/- WholeTexts: the walk. (Written by wip/whole/gentextsw.py.) -/
namespace Go.Proofs.YtbdliabfdplohaaDoor
open Go.RowKit

theorem beyond_made (ns : List Nat) (b : Bool) (k g : Nat) (t : TypeId) (V : World) (hg : V.heap.size = g) (hk : ns.length = k) (hl : ns.length ≤ 1000) (hm : ∀ z ∈ ns, z ≤ 1152921504606846976) (hb : b = decide (1048576 < ns.sum)) :
    Calls Tryd.prog 5 #[.slice (some ⟨g, 0, none⟩) k k] (V.alloc (.cells (cellsI ns).toArray t)) fun e w' => e = .returned (.bool b) ∧ Below V.heap.size V w' := by
  subst hk hb hg
  have h := Blk.new V t (cellsI ns).toArray
  refine (beyond_any (some ⟨V.heap.size, 0, none⟩) ns.length ns hl hm _ (V.heap.size + 1) ?_).mono ?_
  · refine ⟨by rw [cellsI_length, Nat.mul_one], fun _ => ⟨_, rfl, Nat.lt_succ_self _, fun j u hu => ?_⟩⟩
    rw [show (⟨V.heap.size, 0, none⟩ : Addr).add j = ⟨V.heap.size, j, none⟩ by unfold Addr.add; split <;> simp_all, h.cell j, ← hu]
    simp
  · rintro e w' ⟨rfl, rfl⟩
    exact ⟨rfl, (Below.refl _ _).alloc (Nat.le_refl _) _⟩

theorem texts_long (n1 : Bool) (A : Option Addr) (c : Nat) (xs : List Nat) (s : ByteArray) (w : World) (h_x : Raw w A c xs) (hx : xs.length ≤ 1152921504606846975) (hs : s.size ≤ 1152921504606846975) (hl : true = decide (1048576 < 1 + xs.length + s.size)) :
    Calls Tryd.prog 3 #[.agg #[.bool n1, .slice A xs.length c], .string s] w fun e w' => e = .returned (.bool true) ∧ Below w.heap.size w w' := by
  have C1 := fun V : World => intSize_any n1 A c xs.length hx V
  obtain ⟨s1, q1⟩ : ∃ k : Nat, k = 1 + xs.length := ⟨_, rfl⟩
  obtain ⟨s2, q2⟩ : ∃ k : Nat, k = s.size := ⟨_, rfl⟩
  rw [← q1] at C1
  have C2 := fun (V : World) (g : Nat) (hg : V.heap.size = g) => beyond_made [s1, s2] true 2 g 3 V hg rfl (by simp) (by simp; omega) (by rw [← q1, ← q2] at hl; rw [show [s1, s2].sum = s1 + s2 by simp]; exact hl)
  have H1 := Hd C1
  have H2 := Hd C2
  have HQ := Hd (show ((s.size : Nat) : Int) = (s2 : Int) by rw [q2])
  clear C1 C2 hx hs q1 q2 hl
  have b0 := ((Below.refl w.heap.size w).alloc (Nat.le_refl _) (.cells #[.bool n1, .slice A xs.length c] 24))
  have p0 := Pair.new w 24 (.bool n1) (.slice A xs.length c)
  have V_x := Hd (NR.of h_x b0 p0)
  have RW_x := Hd h_x
  have HBW := Hd b0
  clear b0 p0 h_x
  go_enter Tryd.func3, Tryd.ntmps3
  obtain ⟨W, E⟩ : ∃ W, W = (w.alloc (.cells #[.bool n1, .slice A xs.length c] 24)) := ⟨_, rfl⟩
  go_upto_region 1 with fail
  rw [← E] at V_x HBW ⊢
  clear E
  obtain ⟨l_x, a_x, b_x, -, -⟩ := V_x.out.pair.facts
  go_wp2_with fail
  refine (H1.out W).mono ?_
  rintro e x1 ⟨rfl, hb⟩
  clear l_x a_x b_x
  have V_x := Hd (V_x.out.below hb)
  have HBW := Hd (belowTo HBW.out hb)
  clear hb
  have hq := HQ.out
  go_wp2_with fail
  refine (H2.out x1 _ rfl).mono ?_
  rintro e xb ⟨rfl, hb⟩
  clear hq
  have V_x := Hd (V_x.out.below hb)
  have HBW := Hd (belowTo HBW.out hb)
  clear hb
  go_wp2_with fail
  go_ret
  exact ⟨rfl, HBW.out⟩

theorem texts_short (n1 : Bool) (A : Option Addr) (c : Nat) (xs : List Nat) (s : ByteArray) (w : World) (h_x : Raw w A c xs) (htab : powTab w) (hx : xs.length ≤ 1152921504606846975) (hs : s.size ≤ 1152921504606846975) (hl : false = decide (1048576 < 1 + xs.length + s.size)) :
    Calls Tryd.prog 3 #[.agg #[.bool n1, .slice A xs.length c], .string s] w fun e w' => e = .returned (.bool true) ∧ Below w.heap.size w w' := by
  have C1 := fun V : World => intSize_any n1 A c xs.length hx V
  obtain ⟨s1, q1⟩ : ∃ k : Nat, k = 1 + xs.length := ⟨_, rfl⟩
  obtain ⟨s2, q2⟩ : ∃ k : Nat, k = s.size := ⟨_, rfl⟩
  rw [← q1] at C1
  have C2 := fun (V : World) (g : Nat) (hg : V.heap.size = g) => beyond_made [s1, s2] false 2 g 3 V hg rfl (by simp) (by simp; omega) (by rw [← q1, ← q2] at hl; rw [show [s1, s2].sum = s1 + s2 by simp]; exact hl)
  have H1 := Hd C1
  have H2 := Hd C2
  have HQ := Hd (show ((s.size : Nat) : Int) = (s2 : Int) by rw [q2])
  have HLM := Hd h_x.limbs
  have HLN := Hd (show xs.length ≤ 1048576 by have := of_decide_eq_false hl.symm; omega)
  have HTAB := Hd htab
  clear C1 C2 hx hs q1 q2 hl htab
  have b0 := ((Below.refl w.heap.size w).alloc (Nat.le_refl _) (.cells #[.bool n1, .slice A xs.length c] 24))
  have p0 := Pair.new w 24 (.bool n1) (.slice A xs.length c)
  have V_x := Hd (NR.of h_x b0 p0)
  have RW_x := Hd h_x
  have HBW := Hd b0
  clear b0 p0 h_x
  go_enter Tryd.func3, Tryd.ntmps3
  obtain ⟨W, E⟩ : ∃ W, W = (w.alloc (.cells #[.bool n1, .slice A xs.length c] 24)) := ⟨_, rfl⟩
  go_upto_region 1 with fail
  rw [← E] at V_x HBW ⊢
  clear E
  obtain ⟨l_x, a_x, b_x, -, -⟩ := V_x.out.pair.facts
  go_wp2_with fail
  refine (H1.out W).mono ?_
  rintro e x1 ⟨rfl, hb⟩
  clear l_x a_x b_x
  have V_x := Hd (V_x.out.below hb)
  have HBW := Hd (belowTo HBW.out hb)
  clear hb
  have hq := HQ.out
  go_wp2_with fail
  refine (H2.out x1 _ rfl).mono ?_
  rintro e xb ⟨rfl, hb⟩
  clear hq
  have V_x := Hd (V_x.out.below hb)
  have HBW := Hd (belowTo HBW.out hb)
  clear hb
  obtain ⟨l_x, a_x, b_x, -, -⟩ := V_x.out.pair.facts
  go_upto_region 3 with fail
  clear l_x a_x b_x
  obtain ⟨l_x, a_x, b_x, -, -⟩ := V_x.out.pair.facts
  go_wp2_with fail
  refine (twin_any n1 A c xs xb V_x.out.raw HLN.out).mono ?_
  rintro e xa ⟨g1, rfl, t1, hg1, hb⟩
  clear l_x a_x b_x
  have V_x := Hd (V_x.out.below hb)
  have HBW := Hd (belowTo HBW.out hb)
  have T1 := Hd t1
  clear t1 hb hg1
  have ha := (Below.refl xa.heap.size xa).alloc (Nat.le_refl _) (.cells #[.bool n1, .slice (some ⟨g1, 0, none⟩) xs.length (xs.length + 1)] 24)
  have pp := Pair.new xa 24 (.bool n1) (.slice (some ⟨g1, 0, none⟩) xs.length (xs.length + 1))
  obtain ⟨y3, E⟩ : ∃ W, W = xa.alloc (.cells #[.bool n1, .slice (some ⟨g1, 0, none⟩) xs.length (xs.length + 1)] 24) := ⟨_, rfl⟩
  go_upto_region 4 with fail
  rw [← E] at ha pp ⊢
  have P_a := Hd pp
  have V_x := Hd (V_x.out.below ha)
  have T1 := Hd (T1.out.below ha)
  have HBW := Hd (belowTo HBW.out ha)
  obtain ⟨gbP_a, hg⟩ : ∃ g, g = xa.heap.size := ⟨_, rfl⟩
  rw [← hg] at P_a ⊢
  clear E ha pp hg
  obtain ⟨T, hT⟩ : ∃ T : ByteArray, T = ⟨(txtL n1 xs).toArray⟩ := ⟨_, rfl⟩
  have CT := whole_Text n1 (some ⟨g1, 0, none⟩) (xs.length + 1) xs
  have CR := ref_Text n1 A c xs
  rw [← hT] at CT CR
  have HCT := Hd CT
  have HCR := Hd CR
  obtain ⟨ek, hek⟩ : ∃ k : Int, k = errI n1 xs := ⟨_, rfl⟩
  rw [← hek] at HCT HCR
  obtain ⟨z, hz⟩ : ∃ k : Int, k = prsV s.data.toList := ⟨_, rfl⟩
  obtain ⟨k2, hk2⟩ : ∃ k : Int, k = prsE s.data.toList := ⟨_, rfl⟩
  have CP := fun V => whole_Parse s V
  have CQ := fun V => ref_Parse s V
  rw [← hz, ← hk2] at CP CQ
  have HCP := Hd CP
  have HCQ := Hd CQ
  clear CT CR CP CQ hT hek hz hk2
  have hA := Hd (fun V : World => fun (h : TwinAt V g1 xs) => TwinAt.raw HLM.out (by have := HLN.out; omega) h)
  obtain ⟨l_p, a_p, b_p, -, -⟩ := P_a.out.facts
  go_wp2_with fail
  refine (HCT.out y3 (hA.out _ T1.out) (HTAB.out.below3 HBW.out)).mono ?_
  rintro e x1 ⟨rfl, hb⟩
  clear l_p a_p b_p
  have V_x := Hd (V_x.out.below hb)
  have T1 := Hd (T1.out.below hb)
  have P_a := Hd (P_a.out.below hb)
  have HBW := Hd (belowTo HBW.out hb)
  clear hb
  go_wp2_with fail
  refine (HCP.out x1).mono ?_
  rintro e p0 ⟨va, rfl, hI, hb⟩
  obtain ⟨A0, c0, rfl, -⟩ := hI.value
  have V_x := Hd (V_x.out.below hb)
  have T1 := Hd (T1.out.below hb)
  have P_a := Hd (P_a.out.below hb)
  have HBW := Hd (belowTo HBW.out hb)
  clear hb
  have ha := (Below.refl p0.heap.size p0).alloc (Nat.le_refl _) (.cells #[.bool (decide (z < 0)), .slice A0 (natL z.natAbs).length c0] 24)
  have pp := Pair.new p0 24 (.bool (decide (z < 0))) (.slice A0 (natL z.natAbs).length c0)
  obtain ⟨y4, E⟩ : ∃ W, W = p0.alloc (.cells #[.bool (decide (z < 0)), .slice A0 (natL z.natAbs).length c0] 24) := ⟨_, rfl⟩
  go_upto_region 6 with fail
  rw [← E] at ha pp ⊢
  have N_0 := Hd (VarAt.mk pp (hI.at_.below ha))
  have V_x := Hd (V_x.out.below ha)
  have T1 := Hd (T1.out.below ha)
  have P_a := Hd (P_a.out.below ha)
  have HBW := Hd (belowTo HBW.out ha)
  obtain ⟨gbN_0, hg⟩ : ∃ g, g = p0.heap.size := ⟨_, rfl⟩
  rw [← hg] at N_0 ⊢
  clear E ha pp hg
  clear hI
  obtain ⟨l_x, a_x, b_x, -, -⟩ := V_x.out.pair.facts
  go_wp2_with fail
  refine (HCR.out y4 V_x.out.raw).mono ?_
  rintro e x2 ⟨rfl, hb⟩
  clear l_x a_x b_x
  have V_x := Hd (V_x.out.below hb)
  have T1 := Hd (T1.out.below hb)
  have P_a := Hd (P_a.out.below hb)
  have N_0 := Hd (N_0.out.below hb)
  have HBW := Hd (belowTo HBW.out hb)
  clear hb
  go_wp2_with fail
  refine (HCQ.out x2).mono ?_
  rintro e p1 ⟨va, rfl, hI, hb⟩
  obtain ⟨A1, c1, rfl, -⟩ := hI.value
  have V_x := Hd (V_x.out.below hb)
  have T1 := Hd (T1.out.below hb)
  have P_a := Hd (P_a.out.below hb)
  have N_0 := Hd (N_0.out.below hb)
  have HBW := Hd (belowTo HBW.out hb)
  clear hb
  have ha := (Below.refl p1.heap.size p1).alloc (Nat.le_refl _) (.cells #[.bool (decide (z < 0)), .slice A1 (natL z.natAbs).length c1] 24)
  have pp := Pair.new p1 24 (.bool (decide (z < 0))) (.slice A1 (natL z.natAbs).length c1)
  obtain ⟨y5, E⟩ : ∃ W, W = p1.alloc (.cells #[.bool (decide (z < 0)), .slice A1 (natL z.natAbs).length c1] 24) := ⟨_, rfl⟩
  go_upto_region 8 with fail
  rw [← E] at ha pp ⊢
  have N_1 := Hd (VarAt.mk pp (hI.at_.below ha))
  have V_x := Hd (V_x.out.below ha)
  have T1 := Hd (T1.out.below ha)
  have P_a := Hd (P_a.out.below ha)
  have N_0 := Hd (N_0.out.below ha)
  have HBW := Hd (belowTo HBW.out ha)
  obtain ⟨gbN_1, hg⟩ : ∃ g, g = p1.heap.size := ⟨_, rfl⟩
  rw [← hg] at N_1 ⊢
  clear E ha pp hg
  clear hI
  obtain ⟨u1, u2, u3, -, -⟩ := N_0.out.pair.facts
  obtain ⟨v1, v2, v3, -, -⟩ := N_1.out.pair.facts
  go_wp2_with fail
  refine (answered_true _ _ z k2 y5 N_0.out.at_ N_1.out.at_).mono ?_
  rintro e x3 ⟨rfl, hb⟩
  clear u1 u2 u3 v1 v2 v3
  have V_x := Hd (V_x.out.below hb)
  have T1 := Hd (T1.out.below hb)
  have P_a := Hd (P_a.out.below hb)
  have N_0 := Hd (N_0.out.below hb)
  have N_1 := Hd (N_1.out.below hb)
  have HBW := Hd (belowTo HBW.out hb)
  clear hb
  obtain ⟨u1, u2, u3, -, -⟩ := P_a.out.facts
  obtain ⟨v1, v2, v3, -, -⟩ := V_x.out.pair.facts
  go_wp2_with fail
  refine (left_any n1 A c g1 xs x3 V_x.out.raw T1.out HLN.out).mono ?_
  rintro e x4 ⟨rfl, hb⟩
  clear u1 u2 u3 v1 v2 v3
  have V_x := Hd (V_x.out.below hb)
  have T1 := Hd (T1.out.below hb)
  have P_a := Hd (P_a.out.below hb)
  have N_0 := Hd (N_0.out.below hb)
  have N_1 := Hd (N_1.out.below hb)
  have HBW := Hd (belowTo HBW.out hb)
  clear hb
  go_wp2_with fail
  go_ret
  exact ⟨rfl, HBW.out⟩

theorem texts_true (n1 : Bool) (A : Option Addr) (c : Nat) (xs : List Nat) (s : ByteArray) (w : World) (h : Raw w A c xs) (htab : powTab w) (hx : xs.length ≤ 1152921504606846975) (hs : s.size ≤ 1152921504606846975) :
    Calls Tryd.prog 3 #[.agg #[.bool n1, .slice A xs.length c], .string s] w fun e w' => e = .returned (.bool true) ∧ Below w.heap.size w w' := by
  cases hb : decide (1048576 < 1 + xs.length + s.size) with
  | true => exact texts_long n1 A c xs s w h hx hs hb.symm
  | false => exact texts_short n1 A c xs s w h htab hx hs hb.symm
end Go.Proofs.YtbdliabfdplohaaDoor
