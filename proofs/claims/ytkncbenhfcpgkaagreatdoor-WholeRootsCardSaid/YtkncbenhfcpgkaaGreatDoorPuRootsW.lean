/- Several texts in one: RootsW. -/
import Derived.Test.YtkncbenhfcpgkaaGreatDoorPu51
import Derived.Test.YtkncbenhfcpgkaaGreatDoorPuHd
import Derived.Test.YtkncbenhfcpgkaaGreatDoorPu52
import Derived.Test.YtkncbenhfcpgkaaGreatDoorPu11
import Derived.Test.YtkncbenhfcpgkaaGreatDoorPu09
import Derived.Test.YtkncbenhfcpgkaaGreatDoorPu10
import Derived.Test.YtkncbenhfcpgkaaGreatDoorPu08
import Derived.Test.YtkncbenhfcpgkaaGreatDoorPu50
import Derived.Test.YtkncbenhfcpgkaaGreatDoorPu01
import Derived.Test.YtkncbenhfcpgkaaGreatDoorPu34
import Derived.Test.YtkncbenhfcpgkaaGreatDoorPu39
import Derived.Test.YtkncbenhfcpgkaaGreatDoorPu07
import Derived.Test.YtkncbenhfcpgkaaGreatDoorPu05
import Derived.Test.YtkncbenhfcpgkaaGreatDoorPu04
import Derived.Test.YtkncbenhfcpgkaaGreatDoorPu03
import Derived.Test.YtkncbenhfcpgkaaGreatDoorPu33
import Derived.Test.YtkncbenhfcpgkaaGreatDoorPu02
import Derived.Test.YtkncbenhfcpgkaaGreatDoorPu06
import Derived.Test.YtkncbenhfcpgkaaGreatDoorPu38
import Derived.Test.YtkncbenhfcpgkaaGreatDoorPu37
import Derived.Test.YtkncbenhfcpgkaaGreatDoorPu18
import Derived.Test.YtkncbenhfcpgkaaGreatDoorPu36
import Derived.Test.YtkncbenhfcpgkaaGreatDoorPu19
import Derived.Test.YtkncbenhfcpgkaaGreatDoorPu20
import Derived.Test.YtkncbenhfcpgkaaGreatDoorPu16
import Derived.Test.YtkncbenhfcpgkaaGreatDoorPu15
import Derived.Test.YtkncbenhfcpgkaaGreatDoorPu14
import Derived.Test.YtkncbenhfcpgkaaGreatDoorPu13
import Derived.Test.YtkncbenhfcpgkaaGreatDoorPu12
import Derived.Test.YtkncbenhfcpgkaaGreatDoorPu17
import Derived.Test.YtkncbenhfcpgkaaGreatDoorPu35
set_option maxRecDepth 100000
set_option maxHeartbeats 8000000
/- WholeRoots: the walk. (Written by wip/whole/genroots.py.) -/
namespace Go.Proofs.YtkncbenhfcpgkaaGreatDoor
open Go.RowKit

theorem roots_long (n1 : Bool) (A : Option Addr) (c : Nat) (xs : List Nat) (n : Int) (w : World) (h_x : Raw w A c xs) (hx : xs.length ≤ 1152921504606846975) (hl : 1200 < 1 + xs.length) :
    Calls Tryz.prog 3 #[.agg #[.bool n1, .slice A xs.length c], .int .i64 n] w fun e w' => e = .returned (.bool true) ∧ Below w.heap.size w w' := by
  have C1 := Hd (fun V : World => intSize_any n1 A c xs.length hx V)
  have hl2 : (1200 : Int) < ((1 + xs.length : Nat) : Int) := by omega
  have hl3 : decide (1200 < 1 + xs.length) = true := decide_eq_true hl
  clear hx hl
  have b0 := ((Below.refl w.heap.size w).alloc (Nat.le_refl _) (.cells #[.bool n1, .slice A xs.length c] 24))
  have p0 := Pair.new w 24 (.bool n1) (.slice A xs.length c)
  have V_x := Hd (NR.of h_x b0 p0)
  have RW_x := Hd h_x
  have HBW := Hd b0
  clear b0 p0 h_x
  go_enter Tryz.func3, Tryz.ntmps3
  obtain ⟨W, E⟩ : ∃ W, W = (w.alloc (.cells #[.bool n1, .slice A xs.length c] 24)) := ⟨_, rfl⟩
  go_upto_region 1 with fail
  rw [← E] at V_x HBW ⊢
  clear E
  obtain ⟨l_x, a_x, b_x, -, -⟩ := V_x.out.pair.facts
  go_wp2_with fail
  refine (C1.out W).mono ?_
  rintro e x1 ⟨rfl, hb⟩
  clear l_x a_x b_x
  have V_x := Hd (V_x.out.below hb)
  have HBW := Hd (belowTo HBW.out hb)
  clear hb
  go_wp2_with fail
  go_ret
  exact ⟨rfl, HBW.out⟩

theorem roots_short (n1 : Bool) (A : Option Addr) (c : Nat) (xs : List Nat) (n : Int) (w : World) (h_x : Raw w A c xs) (hx : xs.length ≤ 1152921504606846975) (hl : ¬ 1200 < 1 + xs.length) (hn1 : -9223372036854775808 ≤ n) (hn2 : n ≤ 9223372036854775807) :
    Calls Tryz.prog 3 #[.agg #[.bool n1, .slice A xs.length c], .int .i64 n] w fun e w' => e = .returned (.bool true) ∧ Below w.heap.size w w' := by
  have C1 := Hd (fun V : World => intSize_any n1 A c xs.length hx V)
  have hl2 : ¬ (1200 : Int) < ((1 + xs.length : Nat) : Int) := by omega
  have hl3 : decide (1200 < 1 + xs.length) = false := decide_eq_false hl
  have HLM := Hd h_x.limbs
  have HLN := Hd (show xs.length ≤ 1199 by omega)
  obtain ⟨r, sq, k1, hlr, CR, CR2⟩ := roots_alike n1 xs h_x.limbs
  obtain ⟨z, k2, hlz, CS, CS2⟩ := shifts_alike n1 xs n hn1 hn2 h_x.limbs
  have HS := Hd (And.intro hlr hlz)
  have HR1 := Hd CR
  have HR2 := Hd CR2
  have HS1 := Hd CS
  have HS2 := Hd CS2
  clear hx hl hn1 hn2 CR CR2 CS CS2 hlr hlz
  have b0 := ((Below.refl w.heap.size w).alloc (Nat.le_refl _) (.cells #[.bool n1, .slice A xs.length c] 24))
  have p0 := Pair.new w 24 (.bool n1) (.slice A xs.length c)
  have V_x := Hd (NR.of h_x b0 p0)
  have RW_x := Hd h_x
  have HBW := Hd b0
  clear b0 p0 h_x
  go_enter Tryz.func3, Tryz.ntmps3
  obtain ⟨W, E⟩ : ∃ W, W = (w.alloc (.cells #[.bool n1, .slice A xs.length c] 24)) := ⟨_, rfl⟩
  go_upto_region 1 with fail
  rw [← E] at V_x HBW ⊢
  clear E
  obtain ⟨l_x, a_x, b_x, -, -⟩ := V_x.out.pair.facts
  go_wp2_with fail
  refine (C1.out W).mono ?_
  rintro e x1 ⟨rfl, hb⟩
  clear l_x a_x b_x
  have V_x := Hd (V_x.out.below hb)
  have HBW := Hd (belowTo HBW.out hb)
  clear hb
  obtain ⟨l_x, a_x, b_x, -, -⟩ := V_x.out.pair.facts
  go_upto_region 3 with fail
  clear hl2 hl3
  clear l_x a_x b_x
  obtain ⟨l_x, a_x, b_x, -, -⟩ := V_x.out.pair.facts
  go_wp2_with fail
  refine (twin_any n1 A c xs x1 V_x.out.raw (by have := HLN.out; omega)).mono ?_
  rintro e xa ⟨g1, rfl, t1, hg1, hb⟩
  clear l_x a_x b_x
  have hlo := HBW.out.size
  have hg0 : w.heap.size ≤ g1 := by omega
  have hg2 := t1.blk.lt
  have V_x := Hd (V_x.out.below hb)
  have HBW := Hd (belowTo HBW.out hb)
  have T1 := Hd t1
  clear t1 hb hlo hg1
  have ha := (Below.refl xa.heap.size xa).alloc (Nat.le_refl _) (.cells #[.bool n1, .slice (some ⟨g1, 0, none⟩) xs.length (xs.length + 1)] 24)
  have pp := Pair.new xa 24 (.bool n1) (.slice (some ⟨g1, 0, none⟩) xs.length (xs.length + 1))
  obtain ⟨y3, E⟩ : ∃ W, W = xa.alloc (.cells #[.bool n1, .slice (some ⟨g1, 0, none⟩) xs.length (xs.length + 1)] 24) := ⟨_, rfl⟩
  go_upto_region 4 with fail
  rw [← E] at ha pp ⊢
  have hy3 : xa.heap.size < y3.heap.size := by rw [E]; simp
  have P_a := Hd pp
  have V_x := Hd (V_x.out.below ha)
  have T1 := Hd (T1.out.below ha)
  have HBW := Hd (belowTo HBW.out ha)
  obtain ⟨gba, hg⟩ : ∃ g, g = xa.heap.size := ⟨_, rfl⟩
  rw [← hg] at P_a ⊢
  have hgl3 : gba ≤ xa.heap.size := by omega
  clear E ha pp hg
  have hga : g1 < y3.heap.size := by omega
  clear hg2
  have hA := Hd (fun V : World => fun (h : TwinAt V g1 xs) => TwinAt.raw HLM.out (by have := HLN.out; omega) h)
  obtain ⟨l_p, a_p, b_p, -, -⟩ := P_a.out.facts
  go_wp2_with fail
  refine (HR1.out (some ⟨g1, 0, none⟩) (xs.length + 1) y3 (hA.out _ T1.out)).mono ?_
  rintro e x0 ⟨va, rfl, hI, hb⟩
  obtain ⟨A0, c0, rfl, -⟩ := hI.value
  clear l_p a_p b_p
  have hup0 := hb.size
  have V_x := Hd (V_x.out.below hb)
  have T1 := Hd (T1.out.below hb)
  have P_a := Hd (P_a.out.below hb)
  have HBW := Hd (belowTo HBW.out hb)
  clear hb
  have ha := (Below.refl x0.heap.size x0).alloc (Nat.le_refl _) (.cells #[.bool (decide (r < 0)), .slice A0 (natL r.natAbs).length c0] 24)
  have pp := Pair.new x0 24 (.bool (decide (r < 0))) (.slice A0 (natL r.natAbs).length c0)
  obtain ⟨y4, E⟩ : ∃ W, W = x0.alloc (.cells #[.bool (decide (r < 0)), .slice A0 (natL r.natAbs).length c0] 24) := ⟨_, rfl⟩
  go_upto_region 5 with fail
  rw [← E] at ha pp ⊢
  have hy4 : x0.heap.size < y4.heap.size := by rw [E]; simp
  have N_0 := Hd (VarOwn.of hI ha pp)
  have V_x := Hd (V_x.out.below ha)
  have T1 := Hd (T1.out.below ha)
  have P_a := Hd (P_a.out.below ha)
  have HBW := Hd (belowTo HBW.out ha)
  obtain ⟨gb0, hg⟩ : ∃ g, g = x0.heap.size := ⟨_, rfl⟩
  rw [← hg] at N_0 ⊢
  have hgl4 : gb0 ≤ x0.heap.size := by omega
  clear E ha pp hg
  clear hI
  obtain ⟨l_p, a_p, b_p, -, -⟩ := P_a.out.facts
  go_wp2_with fail
  refine (HS1.out (some ⟨g1, 0, none⟩) (xs.length + 1) y4 (hA.out _ T1.out)).mono ?_
  rintro e x1 ⟨va, rfl, hI, hb⟩
  obtain ⟨A1, c1, rfl, -⟩ := hI.value
  clear l_p a_p b_p
  have hup1 := hb.size
  have V_x := Hd (V_x.out.below hb)
  have T1 := Hd (T1.out.below hb)
  have P_a := Hd (P_a.out.below hb)
  have N_0 := Hd (N_0.out.below hb)
  have HBW := Hd (belowTo HBW.out hb)
  clear hb
  have ha := (Below.refl x1.heap.size x1).alloc (Nat.le_refl _) (.cells #[.bool (decide (z < 0)), .slice A1 (natL z.natAbs).length c1] 24)
  have pp := Pair.new x1 24 (.bool (decide (z < 0))) (.slice A1 (natL z.natAbs).length c1)
  obtain ⟨y5, E⟩ : ∃ W, W = x1.alloc (.cells #[.bool (decide (z < 0)), .slice A1 (natL z.natAbs).length c1] 24) := ⟨_, rfl⟩
  go_upto_region 6 with fail
  rw [← E] at ha pp ⊢
  have hy5 : x1.heap.size < y5.heap.size := by rw [E]; simp
  have N_1 := Hd (VarOwn.of hI ha pp)
  have V_x := Hd (V_x.out.below ha)
  have T1 := Hd (T1.out.below ha)
  have P_a := Hd (P_a.out.below ha)
  have N_0 := Hd (N_0.out.below ha)
  have HBW := Hd (belowTo HBW.out ha)
  obtain ⟨gb1, hg⟩ : ∃ g, g = x1.heap.size := ⟨_, rfl⟩
  rw [← hg] at N_1 ⊢
  have hgl5 : gb1 ≤ x1.heap.size := by omega
  clear E ha pp hg
  clear hI
  obtain ⟨l_p, a_p, b_p, -, -⟩ := V_x.out.pair.facts
  go_wp2_with fail
  refine (HR2.out A c y5 V_x.out.raw).mono ?_
  rintro e x2 ⟨va, rfl, hI, hb⟩
  obtain ⟨A2, c2, rfl, -⟩ := hI.value
  clear l_p a_p b_p
  have hup2 := hb.size
  have V_x := Hd (V_x.out.below hb)
  have T1 := Hd (T1.out.below hb)
  have P_a := Hd (P_a.out.below hb)
  have N_0 := Hd (N_0.out.below hb)
  have N_1 := Hd (N_1.out.below hb)
  have HBW := Hd (belowTo HBW.out hb)
  clear hb
  have ha := (Below.refl x2.heap.size x2).alloc (Nat.le_refl _) (.cells #[.bool (decide (r < 0)), .slice A2 (natL r.natAbs).length c2] 24)
  have pp := Pair.new x2 24 (.bool (decide (r < 0))) (.slice A2 (natL r.natAbs).length c2)
  obtain ⟨y6, E⟩ : ∃ W, W = x2.alloc (.cells #[.bool (decide (r < 0)), .slice A2 (natL r.natAbs).length c2] 24) := ⟨_, rfl⟩
  go_upto_region 7 with fail
  rw [← E] at ha pp ⊢
  have hy6 : x2.heap.size < y6.heap.size := by rw [E]; simp
  have N_2 := Hd (VarAt.mk pp (hI.at_.below ha))
  have V_x := Hd (V_x.out.below ha)
  have T1 := Hd (T1.out.below ha)
  have P_a := Hd (P_a.out.below ha)
  have N_0 := Hd (N_0.out.below ha)
  have N_1 := Hd (N_1.out.below ha)
  have HBW := Hd (belowTo HBW.out ha)
  obtain ⟨gb2, hg⟩ : ∃ g, g = x2.heap.size := ⟨_, rfl⟩
  rw [← hg] at N_2 ⊢
  have hgl6 : gb2 ≤ x2.heap.size := by omega
  clear E ha pp hg
  clear hI
  obtain ⟨l_p, a_p, b_p, -, -⟩ := V_x.out.pair.facts
  go_wp2_with fail
  refine (HS2.out A c y6 V_x.out.raw).mono ?_
  rintro e x3 ⟨va, rfl, hI, hb⟩
  obtain ⟨A3, c3, rfl, -⟩ := hI.value
  clear l_p a_p b_p
  have hup3 := hb.size
  have V_x := Hd (V_x.out.below hb)
  have T1 := Hd (T1.out.below hb)
  have P_a := Hd (P_a.out.below hb)
  have N_0 := Hd (N_0.out.below hb)
  have N_1 := Hd (N_1.out.below hb)
  have N_2 := Hd (N_2.out.below hb)
  have HBW := Hd (belowTo HBW.out hb)
  clear hb
  have ha := (Below.refl x3.heap.size x3).alloc (Nat.le_refl _) (.cells #[.bool (decide (z < 0)), .slice A3 (natL z.natAbs).length c3] 24)
  have pp := Pair.new x3 24 (.bool (decide (z < 0))) (.slice A3 (natL z.natAbs).length c3)
  obtain ⟨y7, E⟩ : ∃ W, W = x3.alloc (.cells #[.bool (decide (z < 0)), .slice A3 (natL z.natAbs).length c3] 24) := ⟨_, rfl⟩
  go_upto_region 8 with fail
  rw [← E] at ha pp ⊢
  have hy7 : x3.heap.size < y7.heap.size := by rw [E]; simp
  have N_3 := Hd (VarAt.mk pp (hI.at_.below ha))
  have V_x := Hd (V_x.out.below ha)
  have T1 := Hd (T1.out.below ha)
  have P_a := Hd (P_a.out.below ha)
  have N_0 := Hd (N_0.out.below ha)
  have N_1 := Hd (N_1.out.below ha)
  have N_2 := Hd (N_2.out.below ha)
  have HBW := Hd (belowTo HBW.out ha)
  obtain ⟨gb3, hg⟩ : ∃ g, g = x3.heap.size := ⟨_, rfl⟩
  rw [← hg] at N_3 ⊢
  have hgl7 : gb3 ≤ x3.heap.size := by omega
  clear E ha pp hg
  clear hI
  obtain ⟨u1, u2, u3, -, -⟩ := N_0.out.pair.facts
  obtain ⟨v1, v2, v3, -, -⟩ := N_2.out.pair.facts
  go_wp2_with fail
  refine (answered_true _ _ r k1 y7 (N_0.out.own.at_) (N_2.out.at_)).mono ?_
  rintro e s8 ⟨rfl, hb⟩
  clear u1 u2 u3 v1 v2 v3
  have hsz8 := hb.size
  have V_x := Hd (V_x.out.below hb)
  have T1 := Hd (T1.out.below hb)
  have P_a := Hd (P_a.out.below hb)
  have N_0 := Hd (N_0.out.below hb)
  have N_1 := Hd (N_1.out.below hb)
  have N_2 := Hd (N_2.out.below hb)
  have N_3 := Hd (N_3.out.below hb)
  have HBW := Hd (belowTo HBW.out hb)
  clear hb
  obtain ⟨u1, u2, u3, -, -⟩ := N_1.out.pair.facts
  obtain ⟨v1, v2, v3, -, -⟩ := N_3.out.pair.facts
  go_wp2_with fail
  refine (answered_true _ _ z k2 s8 (N_1.out.own.at_) (N_3.out.at_)).mono ?_
  rintro e s9 ⟨rfl, hb⟩
  clear u1 u2 u3 v1 v2 v3
  have hsz9 := hb.size
  have V_x := Hd (V_x.out.below hb)
  have T1 := Hd (T1.out.below hb)
  have P_a := Hd (P_a.out.below hb)
  have N_0 := Hd (N_0.out.below hb)
  have N_1 := Hd (N_1.out.below hb)
  have N_2 := Hd (N_2.out.below hb)
  have N_3 := Hd (N_3.out.below hb)
  have HBW := Hd (belowTo HBW.out hb)
  clear hb
  obtain ⟨u1, u2, u3, -, -⟩ := P_a.out.facts
  obtain ⟨v1, v2, v3, -, -⟩ := V_x.out.pair.facts
  go_wp2_with fail
  refine (left_any n1 A c g1 xs s9 V_x.out.raw T1.out (by have := HLN.out; omega)).mono ?_
  rintro e s10 ⟨rfl, hb⟩
  clear u1 u2 u3 v1 v2 v3
  have hsz10 := hb.size
  have V_x := Hd (V_x.out.below hb)
  have T1 := Hd (T1.out.below hb)
  have P_a := Hd (P_a.out.below hb)
  have N_0 := Hd (N_0.out.below hb)
  have N_1 := Hd (N_1.out.below hb)
  have N_2 := Hd (N_2.out.below hb)
  have N_3 := Hd (N_3.out.below hb)
  have HBW := Hd (belowTo HBW.out hb)
  clear hb
  have R : RowsIn s10 w.heap.size [.slice (some ⟨g1, 0, none⟩) xs.length (xs.length + 1), .slice A0 (natL r.natAbs).length c0, .slice A1 (natL z.natAbs).length c1] s10.heap.size := by
    have t1 := T1.out.row_ (lo := w.heap.size) hg0 (by have := HLN.out; omega)
    obtain ⟨n0, X0, a0, s0⟩ := N_0.out.row (by have := HS.out.1; unfold lz at this; omega)
    obtain ⟨n1, X1, a1, s1⟩ := N_1.out.row (by have := HS.out.2; unfold lz at this; omega)
    have z0 := RowsIn.nil s10 w.heap.size
    have z1 := RowsIn.snoc (hi' := y3.heap.size) z0 (by have := HLN.out; omega) t1 (fun g hg => by injection hg with hg; have : g1 = g := hg; omega) (by omega)
    have z2 := RowsIn.snoc (hi' := x0.heap.size) z1 a0 s0 (fun g hg => by have := N_0.out.top g hg; omega) (by omega)
    have z3 := RowsIn.snoc (hi' := x1.heap.size) (z2.up (hi' := y4.heap.size) (by omega)) a1 s1 (fun g hg => by have := N_1.out.top g hg; omega) (by omega)
    exact z3.up (by omega)
  have HRW := Hd R
  have hlow := Hd HBW.out
  clear R
  obtain ⟨l_p, a_p, b_p, -, -⟩ := P_a.out.facts
  go_upto_region 11 with fail
  clear l_p a_p b_p
  obtain ⟨v0, E⟩ : ∃ W, W = s10.alloc (.cells #[.int .i64 0, .slice none 0 0, .slice none 0 0, .slice none 0 0, .slice none 0 0, .slice none 0 0, .slice none 0 0, .slice none 0 0, .slice none 0 0, .slice none 0 0, .slice none 0 0, .slice none 0 0, .slice none 0 0, .slice none 0 0, .slice none 0 0, .slice none 0 0, .slice none 0 0] 51) := ⟨_, rfl⟩
  have hk0 : Keep v0 s10.heap.size 0 (fun _ => nilS) nilS := by rw [E]; exact Keep.new s10 _
  have hW0 := Hd (show Below s10.heap.size s10 v0 from by rw [E]; exact (Below.refl _ _).alloc (Nat.le_refl _) _)
  rw [← E] at ⊢
  obtain ⟨b, hbb⟩ : ∃ b, b = s10.heap.size := ⟨_, rfl⟩
  rw [← hbb] at hk0 ⊢
  have HBB := Hd hbb
  have K0 := Hd hk0
  clear E hk0 hbb
  obtain ⟨u1, u2, u3, -, -⟩ := (P_a.out.below hW0.out).facts
  go_wp2_with fail
  refine (book_Int b 0 (fun _ => nilS) nilS n1 (some ⟨g1, 0, none⟩) xs.length (xs.length + 1) (by omega) _ K0.out).mono ?_
  rintro e v1 ⟨rfl, lims1, hk, hb⟩
  have hW1 := Hd (hW0.out.trans (HBB.out ▸ hb))
  have K1 := Hd hk
  clear u1 u2 u3 hk hb K0
  obtain ⟨u1, u2, u3, -, -⟩ := (N_0.out.pair.below hW1.out).facts
  go_wp2_with fail
  refine (book_Int b 1 (updV (fun _ => nilS) 0 (.slice (some ⟨g1, 0, none⟩) xs.length (xs.length + 1))) lims1 (decide (r < 0)) A0 (natL r.natAbs).length c0 (by omega) _ K1.out).mono ?_
  rintro e v2 ⟨rfl, lims2, hk, hb⟩
  have hW2 := Hd (hW1.out.trans (HBB.out ▸ hb))
  have K2 := Hd hk
  clear u1 u2 u3 hk hb K1
  obtain ⟨u1, u2, u3, -, -⟩ := (N_1.out.pair.below hW2.out).facts
  go_wp2_with fail
  refine (book_Int b 2 (updV (updV (fun _ => nilS) 0 (.slice (some ⟨g1, 0, none⟩) xs.length (xs.length + 1))) 1 (.slice A0 (natL r.natAbs).length c0)) lims2 (decide (z < 0)) A1 (natL z.natAbs).length c1 (by omega) _ K2.out).mono ?_
  rintro e v3 ⟨rfl, lims3, hk, hb⟩
  have hW3 := Hd (hW2.out.trans (HBB.out ▸ hb))
  have K3 := Hd hk
  clear u1 u2 u3 hk hb K2
  have HF := Hd (apart_in b w.heap.size [.slice (some ⟨g1, 0, none⟩) xs.length (xs.length + 1), .slice A0 (natL r.natAbs).length c0, .slice A1 (natL z.natAbs).length c1] lims3 w v3 (by simp) (by simp) (K3.out.cong (fun j hj => by
      rcases (by omega : j = 0 ∨ j = 1 ∨ j = 2) with rfl | rfl | rfl <;> rfl)) (by rw [HBB.out]; exact HRW.out.below hW3.out) (belowTo hlow.out hW3.out))
  clear HRW K3
  go_wp2_with fail
  refine HF.out.mono ?_
  rintro e wf ⟨rfl, hbf⟩
  go_wp2_with fail
  go_ret
  exact ⟨rfl, hbf⟩

theorem roots_true (n1 : Bool) (A : Option Addr) (c : Nat) (xs : List Nat) (n : Int) (w : World) (h : Raw w A c xs) (hx : xs.length ≤ 1152921504606846975) (h1 : -9223372036854775808 ≤ n) (h2 : n ≤ 9223372036854775807) :
    Calls Tryz.prog 3 #[.agg #[.bool n1, .slice A xs.length c], .int .i64 n] w fun e w' => e = .returned (.bool true) ∧ Below w.heap.size w w' := by
  by_cases hl : 1200 < 1 + xs.length
  · exact roots_long n1 A c xs n w h hx hl
  · exact roots_short n1 A c xs n w h hx hl h1 h2
end Go.Proofs.YtkncbenhfcpgkaaGreatDoor
