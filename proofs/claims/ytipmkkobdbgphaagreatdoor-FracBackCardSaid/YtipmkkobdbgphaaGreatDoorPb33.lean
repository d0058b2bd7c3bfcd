/- Several texts in one: ERead, RFromFloat, TreesR, Below. -/
import Derived.Test.YtipmkkobdbgphaaGreatDoorPb31
import Derived.Test.YtipmkkobdbgphaaGreatDoorPbHd
import Derived.Test.YtipmkkobdbgphaaGreatDoorPb32
import Derived.Test.YtipmkkobdbgphaaGreatDoorPb28
import Derived.Test.YtipmkkobdbgphaaGreatDoorPb14
import Derived.Test.YtipmkkobdbgphaaGreatDoorPb29
import Derived.Test.YtipmkkobdbgphaaGreatDoorPb18
import Derived.Test.YtipmkkobdbgphaaGreatDoorPb12
import Derived.Deep.CutBlock
import Derived.Test.YtipmkkobdbgphaaGreatDoorPb19
set_option maxRecDepth 100000
set_option maxHeartbeats 8000000
/- Whole of package ratio and of the references; Read of package ratio. (Written by wip/frac/genread.py.) -/
namespace Go.Proofs.YtipmkkobdbgphaaGreatDoor
open Go.RowKit

theorem FracIn.zero (w : World) (base : Nat) : FracIn w base (.agg #[.bool false, .slice none 0 0, .bool false, .slice none 0 0]) 0 0 := ⟨none, 0, none, 0, rfl, IntOwn.nought _ _, IntOwn.nought _ _⟩
def RetReadF (w : World) (o : Option (Int × Int)) (e : Ending) (w' : World) : Prop := ∃ n d, RetFracB w n d o.isSome e w' ∧ ∀ p, o = some p → p = (n, d)
def RetZB (w : World) (z : Int) (b : Bool) (e : Ending) (w' : World) : Prop := ∃ v, e = .returned (.tuple #[v, .bool b]) ∧ IntOwn w' w.heap.size v z ∧ Below w.heap.size w w'

theorem ratio_Whole (z one : Int) (A : Option Addr) (c : Nat) (w : World) (h_z : Raw w A c (natL z.natAbs)) (o_z : IntOwn w 0 (.agg #[.bool (decide (z < 0)), .slice A (natL z.natAbs).length c]) z) (h1 : one = 1) :
    Calls Tryz.prog 126 #[.agg #[.bool (decide (z < 0)), .slice A (natL z.natAbs).length c]] w (RetFracIn w z one) := by
  have OW := Hd o_z
  have H1 := Hd h1
  clear o_z h1
  have b0 := (((Below.refl w.heap.size w).alloc (Nat.le_refl _) (.cells #[.bool (decide (z < 0)), .slice A (natL z.natAbs).length c] 25)).alloc (by simp) (.cells #[.bool false, .slice none 0 0, .bool false, .slice none 0 0] 27))
  have p0 := (Pair.new w 25 (.bool (decide (z < 0))) (.slice A (natL z.natAbs).length c)).alloc (.cells #[.bool false, .slice none 0 0, .bool false, .slice none 0 0] 27)
  have p1 := Quad.new (w.alloc (.cells #[.bool (decide (z < 0)), .slice A (natL z.natAbs).length c] 25)) (.bool false) (.slice none 0 0) (.bool false) (.slice none 0 0)
  simp only [World.size_alloc] at p1
  have V_z := Hd (NV.of h_z b0 p0)
  have P_r0 := Hd p1
  have RW_z := Hd h_z
  have HBW := Hd b0
  clear b0 p0 p1 h_z
  go_enter Tryz.func126, Tryz.ntmps126
  obtain ⟨W, E⟩ : ∃ W, W = ((w.alloc (.cells #[.bool (decide (z < 0)), .slice A (natL z.natAbs).length c] 25)).alloc (.cells #[.bool false, .slice none 0 0, .bool false, .slice none 0 0] 27)) := ⟨_, rfl⟩
  go_upto_region 1 with fail
  rw [← E] at V_z P_r0 HBW ⊢
  clear E
  have hszr := P_r0.out.blk.lt
  have O_z := Hd (OW.out.below HBW.out)
  clear OW
  go_wp2_with fail
  refine wp_region_free [.val (.agg #[.bool (decide (z < 0)), .slice A (natL z.natAbs).length c]) [], .any false (fun u V => IntOwn V 0 u one) [], .any false (fun u V => FracIn V 0 u z one) [1], .old (w.heap.size + 1) 27 #[.bool false, .slice none 0 0, .bool false, .slice none 0 0] 0 4 2 []] (w.heap.size + 1) W [27] blkInt _ mixedOrders2 (by have := P_r0.out.blk.lt; omega) (Below.refl _ _) (KeptV.refl _ _ _) rfl (by kernel_rfl) (by kernel_rfl) (by kernel_rfl) (by kernel_rfl) (by kernel_rfl) (by kernel_rfl) (by kernel_rfl) (by kernel_rfl) rfl (by simp [oldsF]) ?_ ?_ ?_ ?_
  · simp only [StableF, and_true]
    exact ⟨fun u V V' h k => h.kept k (by decide), fun u V V' h k => h.kept k (by decide)⟩
  · simp only [OldsF, and_true]
    exact ⟨Nat.le_refl _, P_r0.out.blk.lt, P_r0.out.blk, by simp⟩
  · simp (maxSteps := 4000000) [StepsF, DepF, freeAct, fill, pairs]
    repeat' (first | apply And.intro | (intro (u : Value)) | (intro (u : Nat)))
    all_goals try exact ⟨_, _, _, rfl, rfl, rfl, rfl, fracInfo⟩
    all_goals first
    | (intro V hV hK
       obtain ⟨-, a_z, b_z, -, -⟩ := (Pair.mk (hK.blk V_z.out.pair.blk (by decide))).facts
       clear hV hK
       go_simp
       first
       | exact Below.refl _ _
       | ((with_reducible refine (eof 1 one H1.out (by decide) (by decide) V).mono ?_); rintro e w' ⟨v, rfl, hv, hb⟩; exact ⟨hv.base (Nat.zero_le _), hb⟩))
    | (intro V hV hK h1
       have oz := O_z.out.kept hK (by decide)
       obtain ⟨A6, c6, rfl, -⟩ := h1.raw
       clear hV hK
       go_simp
       exact ⟨⟨_, _, _, _, rfl, oz, h1⟩, Below.refl _ _⟩)
    | exact fun _ _ _ (h : FracIn _ _ _ _ _) => h.cells
  · simp [EndF, FactsF, freeAct, fill, pairs]
    intro u1 u2 V hV hK h1 h2 bq _ _ _
    have HF := Hd h2
    obtain ⟨A6, c6, A7, c7, rfl, -⟩ := h2.form
    simp [setAll, Value.cells] at bq
    have k0 := bq.cell 0
    have k1 := bq.cell 1
    have k2 := bq.cell 2
    have k3 := bq.cell 3
    simp at k0 k1 k2 k3
    have HB9 := Hd (HBW.out.trans (hV.mono (by omega)))
    clear h1 h2 hV hK bq
    go_wp2_with fail
    exact bodyPost_ret (by simp [results, Tryz.results126, go_sem, k0, k1, k2, k3]) rfl ⟨_, rfl, HF.out, HB9.out⟩

theorem ratio_Read_ff (s a b : ByteArray) (n : Int) (w : World)  (C1 : ∀ V, Calls Tryz.prog 185 #[.string s, .string ⟨#[47]⟩] V fun e w' => e = .returned (.tuple #[.string a, .string b, .bool false]) ∧ Below V.heap.size V w') (C2 : ∀ V, Calls Tryz.prog 186 #[.string a] V (RetZB V n false)) :
    Calls Tryz.prog 109 #[.string s] w (RetFracB w n 1 false) := by
  have H1 := Hd C1
  have H2 := Hd C2
  obtain ⟨one, hone⟩ : ∃ k : Int, k = 1 := ⟨_, rfl⟩
  have HONE := Hd hone
  have H3 := Hd (fun (V : World) (A : Option Addr) (c : Nat) (h : Raw V A c (natL n.natAbs)) (o_z : IntOwn V 0 (.agg #[.bool (decide (n < 0)), .slice A (natL n.natAbs).length c]) n) => ratio_Whole n one A c V h o_z hone)
  rw [show (RetFracB w n 1 false) = RetFracB w n one false by rw [hone]]
  clear C1 C2 hone
  have b0 := ((Below.refl w.heap.size w).alloc (Nat.le_refl _) (.cells #[.bool false, .slice none 0 0, .bool false, .slice none 0 0] 27))
  have p0 := Quad.new w (.bool false) (.slice none 0 0) (.bool false) (.slice none 0 0)
  have P_r0 := Hd p0
  have HBW := Hd b0
  clear b0 p0 
  go_enter Tryz.func109, Tryz.ntmps109
  obtain ⟨W, E⟩ : ∃ W, W = (w.alloc (.cells #[.bool false, .slice none 0 0, .bool false, .slice none 0 0] 27)) := ⟨_, rfl⟩
  go_upto_region 1 with fail
  rw [← E] at P_r0 HBW ⊢
  clear E
  have hsz := P_r0.out.blk.lt
  clear hsz
  go_wp2_with fail
  refine (H1.out W).mono ?_
  rintro e x1 ⟨rfl, hb⟩
  have P_r0 := Hd (P_r0.out.below hb)
  have HBW := Hd (belowTo HBW.out hb)
  clear hb
  go_wp2_with fail
  refine (H2.out x1).mono ?_
  rintro e x2 ⟨v, rfl, hI, hb⟩
  obtain ⟨A1, c1, rfl, r1⟩ := hI.raw
  have hI0 := hI.base (Nat.zero_le _)
  have P_r0 := Hd (P_r0.out.below hb)
  have HBW := Hd (belowTo HBW.out hb)
  have R_n := Hd r1
  clear hb r1
  have O_n := Hd hI0
  clear hI hI0
  go_upto_region 3 with fail
  have ha := ((Below.refl x2.heap.size x2).alloc (Nat.le_refl _) (.cells #[.bool (decide (n < 0)), .slice A1 (natL n.natAbs).length c1] 25))
  have p_n := (Pair.new x2 25 (.bool (decide (n < 0))) (.slice A1 (natL n.natAbs).length c1))
  obtain ⟨y3, E⟩ : ∃ W, W = (x2.alloc (.cells #[.bool (decide (n < 0)), .slice A1 (natL n.natAbs).length c1] 25)) := ⟨_, rfl⟩
  rw [← E] at ha p_n ⊢
  have V_n := Hd (NV.of R_n.out ha p_n)
  have P_r0 := Hd (P_r0.out.below ha)
  have O_n := Hd (O_n.out.below ha)
  have HBW := Hd (belowTo HBW.out ha)
  obtain ⟨g3, hg⟩ : ∃ g, g = x2.heap.size := ⟨_, rfl⟩
  rw [← hg] at V_n ⊢
  clear E ha hg p_n
  obtain ⟨l_n, a_n, b_n, -, -⟩ := V_n.out.pair.facts
  go_wp2_with fail
  refine (H3.out y3 A1 c1 V_n.out.raw O_n.out).mono ?_
  rintro e x4 ⟨v, rfl, hF, hb⟩
  obtain ⟨A6, c6, A7, c7, rfl, -⟩ := hF.form
  clear l_n a_n b_n
  have V_n := Hd (V_n.out.below hb)
  have P_r0 := Hd (P_r0.out.below hb)
  have O_n := Hd (O_n.out.below hb)
  have HBW := Hd (belowTo HBW.out hb)
  clear hb
  have HF := Hd hF
  clear hF
  obtain ⟨l_r0, a_r0, b_r0, f_r0, g_r0⟩ := P_r0.out.facts
  have HQ := Hd (P_r0.out.store (.bool (decide (n < 0))) (.slice A6 (natL n.natAbs).length c6) (.bool (decide (one < 0))) (.slice A7 (natL one.natAbs).length c7))
  have HB := Hd (below4 HBW.out (show w.heap.size ≤ w.heap.size by omega) (.bool (decide (n < 0))) (.slice A6 (natL n.natAbs).length c6) (.bool (decide (one < 0))) (.slice A7 (natL one.natAbs).length c7))
  have HF9 := Hd (HF.out.quad P_r0.out (.bool (decide (n < 0))) (.slice A6 (natL n.natAbs).length c6) (.bool (decide (one < 0))) (.slice A7 (natL one.natAbs).length c7))
  go_wp2_with fail
  obtain ⟨_, k0, k1, k2, k3, _, _, _, _⟩ := HQ.out.facts
  exact bodyPost_ret (by simp [results, Tryz.results109, go_sem, k0, k1, k2, k3]) rfl ⟨_, rfl, HF9.out, HB.out⟩

theorem ratio_Read_ft (s a b : ByteArray) (n : Int) (w : World)  (C1 : ∀ V, Calls Tryz.prog 185 #[.string s, .string ⟨#[47]⟩] V fun e w' => e = .returned (.tuple #[.string a, .string b, .bool false]) ∧ Below V.heap.size V w') (C2 : ∀ V, Calls Tryz.prog 186 #[.string a] V (RetZB V n true)) :
    Calls Tryz.prog 109 #[.string s] w (RetFracB w n 1 true) := by
  have H1 := Hd C1
  have H2 := Hd C2
  obtain ⟨one, hone⟩ : ∃ k : Int, k = 1 := ⟨_, rfl⟩
  have HONE := Hd hone
  have H3 := Hd (fun (V : World) (A : Option Addr) (c : Nat) (h : Raw V A c (natL n.natAbs)) (o_z : IntOwn V 0 (.agg #[.bool (decide (n < 0)), .slice A (natL n.natAbs).length c]) n) => ratio_Whole n one A c V h o_z hone)
  rw [show (RetFracB w n 1 true) = RetFracB w n one true by rw [hone]]
  clear C1 C2 hone
  have b0 := ((Below.refl w.heap.size w).alloc (Nat.le_refl _) (.cells #[.bool false, .slice none 0 0, .bool false, .slice none 0 0] 27))
  have p0 := Quad.new w (.bool false) (.slice none 0 0) (.bool false) (.slice none 0 0)
  have P_r0 := Hd p0
  have HBW := Hd b0
  clear b0 p0 
  go_enter Tryz.func109, Tryz.ntmps109
  obtain ⟨W, E⟩ : ∃ W, W = (w.alloc (.cells #[.bool false, .slice none 0 0, .bool false, .slice none 0 0] 27)) := ⟨_, rfl⟩
  go_upto_region 1 with fail
  rw [← E] at P_r0 HBW ⊢
  clear E
  have hsz := P_r0.out.blk.lt
  clear hsz
  go_wp2_with fail
  refine (H1.out W).mono ?_
  rintro e x1 ⟨rfl, hb⟩
  have P_r0 := Hd (P_r0.out.below hb)
  have HBW := Hd (belowTo HBW.out hb)
  clear hb
  go_wp2_with fail
  refine (H2.out x1).mono ?_
  rintro e x2 ⟨v, rfl, hI, hb⟩
  obtain ⟨A1, c1, rfl, r1⟩ := hI.raw
  have hI0 := hI.base (Nat.zero_le _)
  have P_r0 := Hd (P_r0.out.below hb)
  have HBW := Hd (belowTo HBW.out hb)
  have R_n := Hd r1
  clear hb r1
  have O_n := Hd hI0
  clear hI hI0
  go_upto_region 3 with fail
  have ha := ((Below.refl x2.heap.size x2).alloc (Nat.le_refl _) (.cells #[.bool (decide (n < 0)), .slice A1 (natL n.natAbs).length c1] 25))
  have p_n := (Pair.new x2 25 (.bool (decide (n < 0))) (.slice A1 (natL n.natAbs).length c1))
  obtain ⟨y3, E⟩ : ∃ W, W = (x2.alloc (.cells #[.bool (decide (n < 0)), .slice A1 (natL n.natAbs).length c1] 25)) := ⟨_, rfl⟩
  rw [← E] at ha p_n ⊢
  have V_n := Hd (NV.of R_n.out ha p_n)
  have P_r0 := Hd (P_r0.out.below ha)
  have O_n := Hd (O_n.out.below ha)
  have HBW := Hd (belowTo HBW.out ha)
  obtain ⟨g3, hg⟩ : ∃ g, g = x2.heap.size := ⟨_, rfl⟩
  rw [← hg] at V_n ⊢
  clear E ha hg p_n
  obtain ⟨l_n, a_n, b_n, -, -⟩ := V_n.out.pair.facts
  go_wp2_with fail
  refine (H3.out y3 A1 c1 V_n.out.raw O_n.out).mono ?_
  rintro e x4 ⟨v, rfl, hF, hb⟩
  obtain ⟨A6, c6, A7, c7, rfl, -⟩ := hF.form
  clear l_n a_n b_n
  have V_n := Hd (V_n.out.below hb)
  have P_r0 := Hd (P_r0.out.below hb)
  have O_n := Hd (O_n.out.below hb)
  have HBW := Hd (belowTo HBW.out hb)
  clear hb
  have HF := Hd hF
  clear hF
  obtain ⟨l_r0, a_r0, b_r0, f_r0, g_r0⟩ := P_r0.out.facts
  have HQ := Hd (P_r0.out.store (.bool (decide (n < 0))) (.slice A6 (natL n.natAbs).length c6) (.bool (decide (one < 0))) (.slice A7 (natL one.natAbs).length c7))
  have HB := Hd (below4 HBW.out (show w.heap.size ≤ w.heap.size by omega) (.bool (decide (n < 0))) (.slice A6 (natL n.natAbs).length c6) (.bool (decide (one < 0))) (.slice A7 (natL one.natAbs).length c7))
  have HF9 := Hd (HF.out.quad P_r0.out (.bool (decide (n < 0))) (.slice A6 (natL n.natAbs).length c6) (.bool (decide (one < 0))) (.slice A7 (natL one.natAbs).length c7))
  go_wp2_with fail
  obtain ⟨_, k0, k1, k2, k3, _, _, _, _⟩ := HQ.out.facts
  exact bodyPost_ret (by simp [results, Tryz.results109, go_sem, k0, k1, k2, k3]) rfl ⟨_, rfl, HF9.out, HB.out⟩

theorem ratio_Read_tf (s a b : ByteArray) (n : Int) (w : World)  (C1 : ∀ V, Calls Tryz.prog 185 #[.string s, .string ⟨#[47]⟩] V fun e w' => e = .returned (.tuple #[.string a, .string b, .bool true]) ∧ Below V.heap.size V w') (C2 : ∀ V, Calls Tryz.prog 186 #[.string a] V (RetZB V n false)) :
    Calls Tryz.prog 109 #[.string s] w (RetFracB w n 1 false) := by
  have H1 := Hd C1
  have H2 := Hd C2
  obtain ⟨one, hone⟩ : ∃ k : Int, k = 1 := ⟨_, rfl⟩
  have HONE := Hd hone
  have H3 := Hd (fun (V : World) (A : Option Addr) (c : Nat) (h : Raw V A c (natL n.natAbs)) (o_z : IntOwn V 0 (.agg #[.bool (decide (n < 0)), .slice A (natL n.natAbs).length c]) n) => ratio_Whole n one A c V h o_z hone)
  rw [show (RetFracB w n 1 false) = RetFracB w n one false by rw [hone]]
  clear C1 C2 hone
  have b0 := ((Below.refl w.heap.size w).alloc (Nat.le_refl _) (.cells #[.bool false, .slice none 0 0, .bool false, .slice none 0 0] 27))
  have p0 := Quad.new w (.bool false) (.slice none 0 0) (.bool false) (.slice none 0 0)
  have P_r0 := Hd p0
  have HBW := Hd b0
  clear b0 p0 
  go_enter Tryz.func109, Tryz.ntmps109
  obtain ⟨W, E⟩ : ∃ W, W = (w.alloc (.cells #[.bool false, .slice none 0 0, .bool false, .slice none 0 0] 27)) := ⟨_, rfl⟩
  go_upto_region 1 with fail
  rw [← E] at P_r0 HBW ⊢
  clear E
  have hsz := P_r0.out.blk.lt
  clear hsz
  go_wp2_with fail
  refine (H1.out W).mono ?_
  rintro e x1 ⟨rfl, hb⟩
  have P_r0 := Hd (P_r0.out.below hb)
  have HBW := Hd (belowTo HBW.out hb)
  clear hb
  go_wp2_with fail
  refine (H2.out x1).mono ?_
  rintro e x2 ⟨v, rfl, hI, hb⟩
  obtain ⟨A1, c1, rfl, r1⟩ := hI.raw
  have hI0 := hI.base (Nat.zero_le _)
  have P_r0 := Hd (P_r0.out.below hb)
  have HBW := Hd (belowTo HBW.out hb)
  have R_n := Hd r1
  clear hb r1
  have O_n := Hd hI0
  clear hI hI0
  go_upto_region 3 with fail
  have ha := ((Below.refl x2.heap.size x2).alloc (Nat.le_refl _) (.cells #[.bool (decide (n < 0)), .slice A1 (natL n.natAbs).length c1] 25))
  have p_n := (Pair.new x2 25 (.bool (decide (n < 0))) (.slice A1 (natL n.natAbs).length c1))
  obtain ⟨y3, E⟩ : ∃ W, W = (x2.alloc (.cells #[.bool (decide (n < 0)), .slice A1 (natL n.natAbs).length c1] 25)) := ⟨_, rfl⟩
  rw [← E] at ha p_n ⊢
  have V_n := Hd (NV.of R_n.out ha p_n)
  have P_r0 := Hd (P_r0.out.below ha)
  have O_n := Hd (O_n.out.below ha)
  have HBW := Hd (belowTo HBW.out ha)
  obtain ⟨g3, hg⟩ : ∃ g, g = x2.heap.size := ⟨_, rfl⟩
  rw [← hg] at V_n ⊢
  clear E ha hg p_n
  obtain ⟨l_n, a_n, b_n, -, -⟩ := V_n.out.pair.facts
  go_wp2_with fail
  refine (H3.out y3 A1 c1 V_n.out.raw O_n.out).mono ?_
  rintro e x4 ⟨v, rfl, hF, hb⟩
  obtain ⟨A6, c6, A7, c7, rfl, -⟩ := hF.form
  clear l_n a_n b_n
  have V_n := Hd (V_n.out.below hb)
  have P_r0 := Hd (P_r0.out.below hb)
  have O_n := Hd (O_n.out.below hb)
  have HBW := Hd (belowTo HBW.out hb)
  clear hb
  have HF := Hd hF
  clear hF
  obtain ⟨l_r0, a_r0, b_r0, f_r0, g_r0⟩ := P_r0.out.facts
  have HQ := Hd (P_r0.out.store (.bool (decide (n < 0))) (.slice A6 (natL n.natAbs).length c6) (.bool (decide (one < 0))) (.slice A7 (natL one.natAbs).length c7))
  have HB := Hd (below4 HBW.out (show w.heap.size ≤ w.heap.size by omega) (.bool (decide (n < 0))) (.slice A6 (natL n.natAbs).length c6) (.bool (decide (one < 0))) (.slice A7 (natL one.natAbs).length c7))
  have HF9 := Hd (HF.out.quad P_r0.out (.bool (decide (n < 0))) (.slice A6 (natL n.natAbs).length c6) (.bool (decide (one < 0))) (.slice A7 (natL one.natAbs).length c7))
  go_wp2_with fail
  obtain ⟨_, k0, k1, k2, k3, _, _, _, _⟩ := HQ.out.facts
  exact bodyPost_ret (by simp [results, Tryz.results109, go_sem, k0, k1, k2, k3]) rfl ⟨_, rfl, HF9.out, HB.out⟩

theorem ratio_Read_C (s a b : ByteArray) (n d : Int) (w : World)  (C1 : ∀ V, Calls Tryz.prog 185 #[.string s, .string ⟨#[47]⟩] V fun e w' => e = .returned (.tuple #[.string a, .string b, .bool true]) ∧ Below V.heap.size V w') (C2 : ∀ V, Calls Tryz.prog 186 #[.string a] V (RetZB V n true)) (C3 : ∀ V, Calls Tryz.prog 186 #[.string b] V (RetZB V d false))  :
    Calls Tryz.prog 109 #[.string s] w (RetFracB w 0 0 false) := by
  have H1 := Hd C1
  have H2 := Hd C2
  have H3 := Hd C3
  clear C1 C2 C3
  have b0 := ((Below.refl w.heap.size w).alloc (Nat.le_refl _) (.cells #[.bool false, .slice none 0 0, .bool false, .slice none 0 0] 27))
  have p0 := Quad.new w (.bool false) (.slice none 0 0) (.bool false) (.slice none 0 0)
  have P_r0 := Hd p0
  have HBW := Hd b0
  clear b0 p0 
  go_enter Tryz.func109, Tryz.ntmps109
  obtain ⟨W, E⟩ : ∃ W, W = (w.alloc (.cells #[.bool false, .slice none 0 0, .bool false, .slice none 0 0] 27)) := ⟨_, rfl⟩
  go_upto_region 1 with fail
  rw [← E] at P_r0 HBW ⊢
  clear E
  go_wp2_with fail
  refine (H1.out W).mono ?_
  rintro e x1 ⟨rfl, hb⟩
  have P_r0 := Hd (P_r0.out.below hb)
  have HBW := Hd (belowTo HBW.out hb)
  clear hb
  go_wp2_with fail
  refine (H2.out x1).mono ?_
  rintro e x2 ⟨v, rfl, hI, hb⟩
  obtain ⟨A1, c1, rfl, r1⟩ := hI.raw
  have hI0 := hI.base (Nat.zero_le _)
  have P_r0 := Hd (P_r0.out.below hb)
  have HBW := Hd (belowTo HBW.out hb)
  have R_n := Hd r1
  clear hb r1
  have O_n := Hd hI0
  clear hI hI0
  go_upto_region 3 with fail
  have ha := ((Below.refl x2.heap.size x2).alloc (Nat.le_refl _) (.cells #[.bool (decide (n < 0)), .slice A1 (natL n.natAbs).length c1] 25))
  have p_n := (Pair.new x2 25 (.bool (decide (n < 0))) (.slice A1 (natL n.natAbs).length c1))
  obtain ⟨y3, E⟩ : ∃ W, W = (x2.alloc (.cells #[.bool (decide (n < 0)), .slice A1 (natL n.natAbs).length c1] 25)) := ⟨_, rfl⟩
  rw [← E] at ha p_n ⊢
  have V_n := Hd (NV.of R_n.out ha p_n)
  have P_r0 := Hd (P_r0.out.below ha)
  have O_n := Hd (O_n.out.below ha)
  have HBW := Hd (belowTo HBW.out ha)
  obtain ⟨g3, hg⟩ : ∃ g, g = x2.heap.size := ⟨_, rfl⟩
  rw [← hg] at V_n ⊢
  clear E ha hg p_n
  go_wp2_with fail
  refine (H3.out y3).mono ?_
  rintro e x4 ⟨v, rfl, hI, hb⟩
  obtain ⟨A2, c2, rfl, r1⟩ := hI.raw
  have hI0 := hI.base (Nat.zero_le _)
  have V_n := Hd (V_n.out.below hb)
  have P_r0 := Hd (P_r0.out.below hb)
  have O_n := Hd (O_n.out.below hb)
  have HBW := Hd (belowTo HBW.out hb)
  have R_d := Hd r1
  clear hb r1
  have O_d := Hd hI0
  clear hI hI0
  go_upto_region 6 with fail
  have ha := ((Below.refl x4.heap.size x4).alloc (Nat.le_refl _) (.cells #[.bool (decide (d < 0)), .slice A2 (natL d.natAbs).length c2] 25))
  have p_d := (Pair.new x4 25 (.bool (decide (d < 0))) (.slice A2 (natL d.natAbs).length c2))
  obtain ⟨y5, E⟩ : ∃ W, W = (x4.alloc (.cells #[.bool (decide (d < 0)), .slice A2 (natL d.natAbs).length c2] 25)) := ⟨_, rfl⟩
  rw [← E] at ha p_d ⊢
  have V_d := Hd (NV.of R_d.out ha p_d)
  have V_n := Hd (V_n.out.below ha)
  have P_r0 := Hd (P_r0.out.below ha)
  have O_n := Hd (O_n.out.below ha)
  have O_d := Hd (O_d.out.below ha)
  have HBW := Hd (belowTo HBW.out ha)
  obtain ⟨g5, hg⟩ : ∃ g, g = x4.heap.size := ⟨_, rfl⟩
  rw [← hg] at V_d ⊢
  clear E ha hg p_d
  obtain ⟨l_n, a_n, b_n, -, -⟩ := V_n.out.pair.facts
  obtain ⟨l_d, a_d, b_d, -, -⟩ := V_d.out.pair.facts
  go_upto_region 7 with fail
  clear l_n a_n b_n l_d a_d b_d
  have ha := (Below.refl y5.heap.size y5).alloc (Nat.le_refl _) (.cells #[.bool (decide (n < 0)), .slice A1 (natL n.natAbs).length c1, .bool (decide (d < 0)), .slice A2 (natL d.natAbs).length c2] 27)
  have pp := Quad.new y5 (.bool (decide (n < 0))) (.slice A1 (natL n.natAbs).length c1) (.bool (decide (d < 0))) (.slice A2 (natL d.natAbs).length c2)
  obtain ⟨y9, E⟩ : ∃ Y, Y = y5.alloc (.cells #[.bool (decide (n < 0)), .slice A1 (natL n.natAbs).length c1, .bool (decide (d < 0)), .slice A2 (natL d.natAbs).length c2] 27) := ⟨_, rfl⟩
  rw [← E] at ha pp ⊢
  have V_n := Hd (V_n.out.below ha)
  have V_d := Hd (V_d.out.below ha)
  have P_r0 := Hd (P_r0.out.below ha)
  have O_n := Hd (O_n.out.below ha)
  have O_d := Hd (O_d.out.below ha)
  have HBW := Hd (belowTo HBW.out ha)
  obtain ⟨gq, hg⟩ : ∃ g, g = y5.heap.size := ⟨_, rfl⟩
  rw [← hg] at pp ⊢
  have V_q := Hd pp
  clear E ha hg pp
  go_wp2_with fail
  obtain ⟨W0, hW⟩ : ∃ W0, W0 = y9 := ⟨_, rfl⟩
  rw [← hW] at HBW P_r0 O_n O_d V_q V_n V_d  ⊢
  clear hW
  refine wp_region_free [.val (.bool false) [], .val (.bool true) [], .val (.bool true) [], .skip, .skip, .skip, .val (.bool true) [], .val (.bool true) [], .skip, .skip, .skip, .skip, .val (.bool true) [], .val (.bool true) [], .skip, .skip, .skip, .skip, .skip, .skip, .val (.bool true) []] W0.heap.size W0 [] (fun _ _ => False) _ mixedOrders2 (Nat.le_refl _) (Below.refl _ _) (KeptV.refl _ _ _) rfl (by kernel_rfl) (by kernel_rfl) (by kernel_rfl) (by kernel_rfl) (by kernel_rfl) (by kernel_rfl) (by kernel_rfl) (by kernel_rfl) rfl (by simp [oldsF]) ?_ ?_ ?_ ?_
  · simp only [StableF]
  · simp only [OldsF]
  · simp (maxSteps := 4000000) [StepsF, DepF, freeAct, fill, pairs]
    repeat' (first | apply And.intro | (intro (u0 : Value)))
    all_goals first
    | (intro V hV hK
       clear hV hK
       go_simp
       first
       | exact Below.refl _ _
       | exact ⟨by first | rfl | decide | go_num, Below.refl _ _⟩)

  · simp [EndF, FactsF, freeAct, fill, pairs]
    intro V hV hK _ _ _
    have V_n := Hd (V_n.out.below hV)
    have V_d := Hd (V_d.out.below hV)
    have P_r0 := Hd (P_r0.out.below hV)
    have O_n := Hd (O_n.out.below hV)
    have O_d := Hd (O_d.out.below hV)
    have V_q := Hd (V_q.out.below hV)
    have HBW := Hd (belowTo HBW.out hV)
    clear hV hK
    obtain ⟨v6, hV0⟩ : ∃ Y, Y = V := ⟨_, rfl⟩
    rw [← hV0] at HBW P_r0 O_n O_d V_q V_n V_d  ⊢
    clear hV0
    obtain ⟨l_r0, a_r0, b_r0, f_r0, g_r0⟩ := P_r0.out.facts
    have HQ := Hd (P_r0.out.store (.bool false) (.slice none 0 0) (.bool false) (.slice none 0 0))
    have HB := Hd (below4 HBW.out (show w.heap.size ≤ w.heap.size by omega) (.bool false) (.slice none 0 0) (.bool false) (.slice none 0 0))
    go_wp2_with fail
    obtain ⟨_, k0, k1, k2, k3, _, _, _, _⟩ := HQ.out.facts
    exact bodyPost_ret (by simp [results, Tryz.results109, go_sem, k0, k1, k2, k3]) rfl ⟨_, rfl, FracIn.zero _ _, HB.out⟩

theorem ratio_Read_D (s a b : ByteArray) (n d : Int) (w : World)  (C1 : ∀ V, Calls Tryz.prog 185 #[.string s, .string ⟨#[47]⟩] V fun e w' => e = .returned (.tuple #[.string a, .string b, .bool true]) ∧ Below V.heap.size V w') (C2 : ∀ V, Calls Tryz.prog 186 #[.string a] V (RetZB V n true)) (C3 : ∀ V, Calls Tryz.prog 186 #[.string b] V (RetZB V d true)) (hd : d ≤ 0) :
    Calls Tryz.prog 109 #[.string s] w (RetFracB w 0 0 false) := by
  have H1 := Hd C1
  have H2 := Hd C2
  have H3 := Hd C3
  obtain ⟨one, hone⟩ : ∃ k : Int, k = 1 := ⟨_, rfl⟩
  obtain ⟨sg, hsg⟩ : ∃ k : Int, k = d.sign := ⟨_, rfl⟩
  obtain ⟨g, hg0⟩ : ∃ k : Int, k = gcdZ n d := ⟨_, rfl⟩
  have hol : lz one ≤ 2 := by rw [hone]; decide
  have HONE := Hd hone
  have HSG := Hd hsg
  have HG := Hd (show g = ((Nat.gcd n.natAbs d.natAbs : Nat) : Int) from hg0)
  have HLE := Hd (show decide (sg ≤ 0) = true from decide_eq_true (by rw [hsg]; exact Int.sign_nonpos_iff.2 hd))
  clear hone hsg hg0 hd
  clear C1 C2 C3
  have b0 := ((Below.refl w.heap.size w).alloc (Nat.le_refl _) (.cells #[.bool false, .slice none 0 0, .bool false, .slice none 0 0] 27))
  have p0 := Quad.new w (.bool false) (.slice none 0 0) (.bool false) (.slice none 0 0)
  have P_r0 := Hd p0
  have HBW := Hd b0
  clear b0 p0 
  go_enter Tryz.func109, Tryz.ntmps109
  obtain ⟨W, E⟩ : ∃ W, W = (w.alloc (.cells #[.bool false, .slice none 0 0, .bool false, .slice none 0 0] 27)) := ⟨_, rfl⟩
  go_upto_region 1 with fail
  rw [← E] at P_r0 HBW ⊢
  clear E
  go_wp2_with fail
  refine (H1.out W).mono ?_
  rintro e x1 ⟨rfl, hb⟩
  have P_r0 := Hd (P_r0.out.below hb)
  have HBW := Hd (belowTo HBW.out hb)
  clear hb
  go_wp2_with fail
  refine (H2.out x1).mono ?_
  rintro e x2 ⟨v, rfl, hI, hb⟩
  obtain ⟨A1, c1, rfl, r1⟩ := hI.raw
  have hI0 := hI.base (Nat.zero_le _)
  have P_r0 := Hd (P_r0.out.below hb)
  have HBW := Hd (belowTo HBW.out hb)
  have R_n := Hd r1
  clear hb r1
  have O_n := Hd hI0
  clear hI hI0
  go_upto_region 3 with fail
  have ha := ((Below.refl x2.heap.size x2).alloc (Nat.le_refl _) (.cells #[.bool (decide (n < 0)), .slice A1 (natL n.natAbs).length c1] 25))
  have p_n := (Pair.new x2 25 (.bool (decide (n < 0))) (.slice A1 (natL n.natAbs).length c1))
  obtain ⟨y3, E⟩ : ∃ W, W = (x2.alloc (.cells #[.bool (decide (n < 0)), .slice A1 (natL n.natAbs).length c1] 25)) := ⟨_, rfl⟩
  rw [← E] at ha p_n ⊢
  have V_n := Hd (NV.of R_n.out ha p_n)
  have P_r0 := Hd (P_r0.out.below ha)
  have O_n := Hd (O_n.out.below ha)
  have HBW := Hd (belowTo HBW.out ha)
  obtain ⟨g3, hg⟩ : ∃ g, g = x2.heap.size := ⟨_, rfl⟩
  rw [← hg] at V_n ⊢
  clear E ha hg p_n
  go_wp2_with fail
  refine (H3.out y3).mono ?_
  rintro e x4 ⟨v, rfl, hI, hb⟩
  obtain ⟨A2, c2, rfl, r1⟩ := hI.raw
  have hI0 := hI.base (Nat.zero_le _)
  have V_n := Hd (V_n.out.below hb)
  have P_r0 := Hd (P_r0.out.below hb)
  have O_n := Hd (O_n.out.below hb)
  have HBW := Hd (belowTo HBW.out hb)
  have R_d := Hd r1
  clear hb r1
  have O_d := Hd hI0
  clear hI hI0
  go_upto_region 6 with fail
  have ha := ((Below.refl x4.heap.size x4).alloc (Nat.le_refl _) (.cells #[.bool (decide (d < 0)), .slice A2 (natL d.natAbs).length c2] 25))
  have p_d := (Pair.new x4 25 (.bool (decide (d < 0))) (.slice A2 (natL d.natAbs).length c2))
  obtain ⟨y5, E⟩ : ∃ W, W = (x4.alloc (.cells #[.bool (decide (d < 0)), .slice A2 (natL d.natAbs).length c2] 25)) := ⟨_, rfl⟩
  rw [← E] at ha p_d ⊢
  have V_d := Hd (NV.of R_d.out ha p_d)
  have V_n := Hd (V_n.out.below ha)
  have P_r0 := Hd (P_r0.out.below ha)
  have O_n := Hd (O_n.out.below ha)
  have O_d := Hd (O_d.out.below ha)
  have HBW := Hd (belowTo HBW.out ha)
  obtain ⟨g5, hg⟩ : ∃ g, g = x4.heap.size := ⟨_, rfl⟩
  rw [← hg] at V_d ⊢
  clear E ha hg p_d
  obtain ⟨l_n, a_n, b_n, -, -⟩ := V_n.out.pair.facts
  obtain ⟨l_d, a_d, b_d, -, -⟩ := V_d.out.pair.facts
  go_upto_region 7 with fail
  clear l_n a_n b_n l_d a_d b_d
  have ha := (Below.refl y5.heap.size y5).alloc (Nat.le_refl _) (.cells #[.bool (decide (n < 0)), .slice A1 (natL n.natAbs).length c1, .bool (decide (d < 0)), .slice A2 (natL d.natAbs).length c2] 27)
  have pp := Quad.new y5 (.bool (decide (n < 0))) (.slice A1 (natL n.natAbs).length c1) (.bool (decide (d < 0))) (.slice A2 (natL d.natAbs).length c2)
  obtain ⟨y9, E⟩ : ∃ Y, Y = y5.alloc (.cells #[.bool (decide (n < 0)), .slice A1 (natL n.natAbs).length c1, .bool (decide (d < 0)), .slice A2 (natL d.natAbs).length c2] 27) := ⟨_, rfl⟩
  rw [← E] at ha pp ⊢
  have V_n := Hd (V_n.out.below ha)
  have V_d := Hd (V_d.out.below ha)
  have P_r0 := Hd (P_r0.out.below ha)
  have O_n := Hd (O_n.out.below ha)
  have O_d := Hd (O_d.out.below ha)
  have HBW := Hd (belowTo HBW.out ha)
  obtain ⟨gq, hg⟩ : ∃ g, g = y5.heap.size := ⟨_, rfl⟩
  rw [← hg] at pp ⊢
  have V_q := Hd pp
  clear E ha hg pp
  go_wp2_with fail
  obtain ⟨W0, hW⟩ : ∃ W0, W0 = y9 := ⟨_, rfl⟩
  rw [← hW] at HBW P_r0 O_n O_d V_q V_n V_d  ⊢
  clear hW
  refine wp_region_free [.val (.bool true) [], .val (.bool false) [], .val (.bool false) [], .val (.agg #[.bool (decide (d < 0)), .slice A2 (natL d.natAbs).length c2]) [], .val (.int .i64 sg) [], .val (.bool true) [], .val (.bool true) [], .val (.bool true) [], .skip, .skip, .skip, .skip, .val (.bool true) [], .val (.bool true) [], .skip, .skip, .skip, .skip, .skip, .skip, .val (.bool true) []] W0.heap.size W0 [] (fun _ _ => False) _ mixedOrders2 (Nat.le_refl _) (Below.refl _ _) (KeptV.refl _ _ _) rfl (by kernel_rfl) (by kernel_rfl) (by kernel_rfl) (by kernel_rfl) (by kernel_rfl) (by kernel_rfl) (by kernel_rfl) (by kernel_rfl) rfl (by simp [oldsF]) ?_ ?_ ?_ ?_
  · simp only [StableF]
  · simp only [OldsF]
  · simp (maxSteps := 4000000) [StepsF, DepF, freeAct, fill, pairs]
    repeat' (first | apply And.intro | (intro (u0 : Value)))
    all_goals first
    | (intro V hV hK
       obtain ⟨-, a_n, b_n, -, -⟩ := (V_n.out.below hV).pair.facts
       have r_n := Hd (V_n.out.below hV).raw
       obtain ⟨-, a_d, b_d, -, -⟩ := (V_d.out.below hV).pair.facts
       have r_d := Hd (V_d.out.below hV).raw
       have hle := HLE.out
       clear hV hK
       go_simp
       first
       | exact Below.refl _ _
       | exact ⟨by first | rfl | decide | go_num, Below.refl _ _⟩
       | ((with_reducible refine (esign d sg A2 c2 V r_d.out HSG.out).mono ?_); rintro e w' ⟨rfl, hb⟩; exact ⟨rfl, hb⟩))

  · simp [EndF, FactsF, freeAct, fill, pairs]
    intro V hV hK _ _ _
    have V_n := Hd (V_n.out.below hV)
    have V_d := Hd (V_d.out.below hV)
    have P_r0 := Hd (P_r0.out.below hV)
    have O_n := Hd (O_n.out.below hV)
    have O_d := Hd (O_d.out.below hV)
    have V_q := Hd (V_q.out.below hV)
    have HBW := Hd (belowTo HBW.out hV)
    clear hV hK
    obtain ⟨v6, hV0⟩ : ∃ Y, Y = V := ⟨_, rfl⟩
    rw [← hV0] at HBW P_r0 O_n O_d V_q V_n V_d  ⊢
    clear hV0
    obtain ⟨l_r0, a_r0, b_r0, f_r0, g_r0⟩ := P_r0.out.facts
    have HQ := Hd (P_r0.out.store (.bool false) (.slice none 0 0) (.bool false) (.slice none 0 0))
    have HB := Hd (below4 HBW.out (show w.heap.size ≤ w.heap.size by omega) (.bool false) (.slice none 0 0) (.bool false) (.slice none 0 0))
    go_wp2_with fail
    obtain ⟨_, k0, k1, k2, k3, _, _, _, _⟩ := HQ.out.facts
    exact bodyPost_ret (by simp [results, Tryz.results109, go_sem, k0, k1, k2, k3]) rfl ⟨_, rfl, FracIn.zero _ _, HB.out⟩

theorem ratio_Read_E (s a b : ByteArray) (n d : Int) (w : World)  (C1 : ∀ V, Calls Tryz.prog 185 #[.string s, .string ⟨#[47]⟩] V fun e w' => e = .returned (.tuple #[.string a, .string b, .bool true]) ∧ Below V.heap.size V w') (C2 : ∀ V, Calls Tryz.prog 186 #[.string a] V (RetZB V n true)) (C3 : ∀ V, Calls Tryz.prog 186 #[.string b] V (RetZB V d true)) (hld : lz d ≤ 7282) (hd : d = 1) :
    Calls Tryz.prog 109 #[.string s] w (RetFracB w 0 0 false) := by
  have H1 := Hd C1
  have H2 := Hd C2
  have H3 := Hd C3
  obtain ⟨one, hone⟩ : ∃ k : Int, k = 1 := ⟨_, rfl⟩
  obtain ⟨sg, hsg⟩ : ∃ k : Int, k = d.sign := ⟨_, rfl⟩
  obtain ⟨g, hg0⟩ : ∃ k : Int, k = gcdZ n d := ⟨_, rfl⟩
  have hol : lz one ≤ 2 := by rw [hone]; decide
  have HONE := Hd hone
  have HSG := Hd hsg
  have HG := Hd (show g = ((Nat.gcd n.natAbs d.natAbs : Nat) : Int) from hg0)
  have HLE := Hd (show decide (sg ≤ 0) = false from decide_eq_false (by rw [hsg, Int.sign_eq_one_of_pos (by omega)]; decide))
  have HK1 := Hd (show (0 : Int) = cmpz d one from by rw [hone, hd]; decide)
  clear hone hsg hg0 hd
  clear C1 C2 C3
  have b0 := ((Below.refl w.heap.size w).alloc (Nat.le_refl _) (.cells #[.bool false, .slice none 0 0, .bool false, .slice none 0 0] 27))
  have p0 := Quad.new w (.bool false) (.slice none 0 0) (.bool false) (.slice none 0 0)
  have P_r0 := Hd p0
  have HBW := Hd b0
  clear b0 p0 
  go_enter Tryz.func109, Tryz.ntmps109
  obtain ⟨W, E⟩ : ∃ W, W = (w.alloc (.cells #[.bool false, .slice none 0 0, .bool false, .slice none 0 0] 27)) := ⟨_, rfl⟩
  go_upto_region 1 with fail
  rw [← E] at P_r0 HBW ⊢
  clear E
  go_wp2_with fail
  refine (H1.out W).mono ?_
  rintro e x1 ⟨rfl, hb⟩
  have P_r0 := Hd (P_r0.out.below hb)
  have HBW := Hd (belowTo HBW.out hb)
  clear hb
  go_wp2_with fail
  refine (H2.out x1).mono ?_
  rintro e x2 ⟨v, rfl, hI, hb⟩
  obtain ⟨A1, c1, rfl, r1⟩ := hI.raw
  have hI0 := hI.base (Nat.zero_le _)
  have P_r0 := Hd (P_r0.out.below hb)
  have HBW := Hd (belowTo HBW.out hb)
  have R_n := Hd r1
  clear hb r1
  have O_n := Hd hI0
  clear hI hI0
  go_upto_region 3 with fail
  have ha := ((Below.refl x2.heap.size x2).alloc (Nat.le_refl _) (.cells #[.bool (decide (n < 0)), .slice A1 (natL n.natAbs).length c1] 25))
  have p_n := (Pair.new x2 25 (.bool (decide (n < 0))) (.slice A1 (natL n.natAbs).length c1))
  obtain ⟨y3, E⟩ : ∃ W, W = (x2.alloc (.cells #[.bool (decide (n < 0)), .slice A1 (natL n.natAbs).length c1] 25)) := ⟨_, rfl⟩
  rw [← E] at ha p_n ⊢
  have V_n := Hd (NV.of R_n.out ha p_n)
  have P_r0 := Hd (P_r0.out.below ha)
  have O_n := Hd (O_n.out.below ha)
  have HBW := Hd (belowTo HBW.out ha)
  obtain ⟨g3, hg⟩ : ∃ g, g = x2.heap.size := ⟨_, rfl⟩
  rw [← hg] at V_n ⊢
  clear E ha hg p_n
  go_wp2_with fail
  refine (H3.out y3).mono ?_
  rintro e x4 ⟨v, rfl, hI, hb⟩
  obtain ⟨A2, c2, rfl, r1⟩ := hI.raw
  have hI0 := hI.base (Nat.zero_le _)
  have V_n := Hd (V_n.out.below hb)
  have P_r0 := Hd (P_r0.out.below hb)
  have O_n := Hd (O_n.out.below hb)
  have HBW := Hd (belowTo HBW.out hb)
  have R_d := Hd r1
  clear hb r1
  have O_d := Hd hI0
  clear hI hI0
  go_upto_region 6 with fail
  have ha := ((Below.refl x4.heap.size x4).alloc (Nat.le_refl _) (.cells #[.bool (decide (d < 0)), .slice A2 (natL d.natAbs).length c2] 25))
  have p_d := (Pair.new x4 25 (.bool (decide (d < 0))) (.slice A2 (natL d.natAbs).length c2))
  obtain ⟨y5, E⟩ : ∃ W, W = (x4.alloc (.cells #[.bool (decide (d < 0)), .slice A2 (natL d.natAbs).length c2] 25)) := ⟨_, rfl⟩
  rw [← E] at ha p_d ⊢
  have V_d := Hd (NV.of R_d.out ha p_d)
  have V_n := Hd (V_n.out.below ha)
  have P_r0 := Hd (P_r0.out.below ha)
  have O_n := Hd (O_n.out.below ha)
  have O_d := Hd (O_d.out.below ha)
  have HBW := Hd (belowTo HBW.out ha)
  obtain ⟨g5, hg⟩ : ∃ g, g = x4.heap.size := ⟨_, rfl⟩
  rw [← hg] at V_d ⊢
  clear E ha hg p_d
  obtain ⟨l_n, a_n, b_n, -, -⟩ := V_n.out.pair.facts
  obtain ⟨l_d, a_d, b_d, -, -⟩ := V_d.out.pair.facts
  go_upto_region 7 with fail
  clear l_n a_n b_n l_d a_d b_d
  have ha := (Below.refl y5.heap.size y5).alloc (Nat.le_refl _) (.cells #[.bool (decide (n < 0)), .slice A1 (natL n.natAbs).length c1, .bool (decide (d < 0)), .slice A2 (natL d.natAbs).length c2] 27)
  have pp := Quad.new y5 (.bool (decide (n < 0))) (.slice A1 (natL n.natAbs).length c1) (.bool (decide (d < 0))) (.slice A2 (natL d.natAbs).length c2)
  obtain ⟨y9, E⟩ : ∃ Y, Y = y5.alloc (.cells #[.bool (decide (n < 0)), .slice A1 (natL n.natAbs).length c1, .bool (decide (d < 0)), .slice A2 (natL d.natAbs).length c2] 27) := ⟨_, rfl⟩
  rw [← E] at ha pp ⊢
  have V_n := Hd (V_n.out.below ha)
  have V_d := Hd (V_d.out.below ha)
  have P_r0 := Hd (P_r0.out.below ha)
  have O_n := Hd (O_n.out.below ha)
  have O_d := Hd (O_d.out.below ha)
  have HBW := Hd (belowTo HBW.out ha)
  obtain ⟨gq, hg⟩ : ∃ g, g = y5.heap.size := ⟨_, rfl⟩
  rw [← hg] at pp ⊢
  have V_q := Hd pp
  clear E ha hg pp
  go_wp2_with fail
  obtain ⟨W0, hW⟩ : ∃ W0, W0 = y9 := ⟨_, rfl⟩
  rw [← hW] at HBW P_r0 O_n O_d V_q V_n V_d  ⊢
  clear hW
  refine wp_region_free [.val (.bool true) [], .val (.bool false) [], .val (.bool false) [], .val (.agg #[.bool (decide (d < 0)), .slice A2 (natL d.natAbs).length c2]) [], .val (.int .i64 sg) [], .val (.bool false) [], .val (.bool false) [], .val (.bool false) [], .val (.agg #[.bool (decide (d < 0)), .slice A2 (natL d.natAbs).length c2]) [], .any false (fun u0 V => IntAt V u0 one) [], .val (.int .i64 0) [9], .val (.bool true) [], .val (.bool true) [], .val (.bool true) [], .skip, .skip, .skip, .skip, .skip, .skip, .val (.bool true) []] W0.heap.size W0 [] (fun _ _ => False) _ mixedOrders2 (Nat.le_refl _) (Below.refl _ _) (KeptV.refl _ _ _) rfl (by kernel_rfl) (by kernel_rfl) (by kernel_rfl) (by kernel_rfl) (by kernel_rfl) (by kernel_rfl) (by kernel_rfl) (by kernel_rfl) rfl (by simp [oldsF]) ?_ ?_ ?_ ?_
  · simp only [StableF, and_true]
    exact fun u0 V V' h k => h.keptNone k
  · simp only [OldsF]
  · simp (maxSteps := 4000000) [StepsF, DepF, freeAct, fill, pairs]
    repeat' (first | apply And.intro | (intro (u0 : Value)))
    all_goals first
    | (intro V hV hK
       obtain ⟨-, a_n, b_n, -, -⟩ := (V_n.out.below hV).pair.facts
       have r_n := Hd (V_n.out.below hV).raw
       obtain ⟨-, a_d, b_d, -, -⟩ := (V_d.out.below hV).pair.facts
       have r_d := Hd (V_d.out.below hV).raw
       have hle := HLE.out
       clear hV hK
       go_simp
       first
       | exact Below.refl _ _
       | exact ⟨by first | rfl | decide | go_num, Below.refl _ _⟩
       | ((with_reducible refine (esign d sg A2 c2 V r_d.out HSG.out).mono ?_); rintro e w' ⟨rfl, hb⟩; exact ⟨rfl, hb⟩)
       | ((with_reducible refine (eof 1 one HONE.out (by decide) (by decide) V).mono ?_); rintro e w' ⟨v, rfl, hv, hb⟩; exact ⟨hv.at_, hb⟩))
    | (intro V hV hK hu
       obtain ⟨A', c', rfl, hr⟩ := hu.form
       have r_d := Hd (V_d.out.below hV).raw
       have r' := Hd hr
       clear hV hK hu hr
       go_simp
       (with_reducible refine (ecmp d one 0 A2 A' c2 c' V r_d.out r'.out (by omega) (by omega) HK1.out).mono ?_)
       rintro e w' ⟨rfl, hb⟩
       exact ⟨rfl, hb⟩)
  · simp [EndF, FactsF, freeAct, fill, pairs]
    intro u1 V hV hK _h1 _ _ _
    have V_n := Hd (V_n.out.below hV)
    have V_d := Hd (V_d.out.below hV)
    have P_r0 := Hd (P_r0.out.below hV)
    have O_n := Hd (O_n.out.below hV)
    have O_d := Hd (O_d.out.below hV)
    have V_q := Hd (V_q.out.below hV)
    have HBW := Hd (belowTo HBW.out hV)
    clear hV hK
    obtain ⟨v6, hV0⟩ : ∃ Y, Y = V := ⟨_, rfl⟩
    rw [← hV0] at HBW P_r0 O_n O_d V_q V_n V_d  ⊢
    clear hV0
    obtain ⟨l_r0, a_r0, b_r0, f_r0, g_r0⟩ := P_r0.out.facts
    have HQ := Hd (P_r0.out.store (.bool false) (.slice none 0 0) (.bool false) (.slice none 0 0))
    have HB := Hd (below4 HBW.out (show w.heap.size ≤ w.heap.size by omega) (.bool false) (.slice none 0 0) (.bool false) (.slice none 0 0))
    go_wp2_with fail
    obtain ⟨_, k0, k1, k2, k3, _, _, _, _⟩ := HQ.out.facts
    exact bodyPost_ret (by simp [results, Tryz.results109, go_sem, k0, k1, k2, k3]) rfl ⟨_, rfl, FracIn.zero _ _, HB.out⟩

theorem ratio_Read_F (s a b : ByteArray) (n d : Int) (w : World)  (C1 : ∀ V, Calls Tryz.prog 185 #[.string s, .string ⟨#[47]⟩] V fun e w' => e = .returned (.tuple #[.string a, .string b, .bool true]) ∧ Below V.heap.size V w') (C2 : ∀ V, Calls Tryz.prog 186 #[.string a] V (RetZB V n true)) (C3 : ∀ V, Calls Tryz.prog 186 #[.string b] V (RetZB V d true)) (hln : lz n ≤ 7282) (hld : lz d ≤ 7282) (hd : 0 < d) (hd1 : d ≠ 1) (hg : gcdZ n d ≠ 1) :
    Calls Tryz.prog 109 #[.string s] w (RetFracB w 0 0 false) := by
  have H1 := Hd C1
  have H2 := Hd C2
  have H3 := Hd C3
  obtain ⟨one, hone⟩ : ∃ k : Int, k = 1 := ⟨_, rfl⟩
  obtain ⟨sg, hsg⟩ : ∃ k : Int, k = d.sign := ⟨_, rfl⟩
  obtain ⟨g, hg0⟩ : ∃ k : Int, k = gcdZ n d := ⟨_, rfl⟩
  have hol : lz one ≤ 2 := by rw [hone]; decide
  have HONE := Hd hone
  have HSG := Hd hsg
  have HG := Hd (show g = ((Nat.gcd n.natAbs d.natAbs : Nat) : Int) from hg0)
  have HLE := Hd (show decide (sg ≤ 0) = false from decide_eq_false (by rw [hsg, Int.sign_eq_one_of_pos (by omega)]; decide))
  have hgl := gcdZ_lz (n := n) (d := d) (by omega)
  rw [← hg0] at hgl
  have hgp := gcdZ_pos (n := n) (d := d) (by omega)
  have HK1 := Hd (show (1 : Int) = cmpz d one from by rw [hone]; exact (cmpz_gt (by omega)).symm)
  have HK2 := Hd (show (1 : Int) = cmpz g one from by rw [hone, hg0]; exact (cmpz_gt (by omega)).symm)
  clear hone hsg hg0 hd hd1 hg hgp
  clear C1 C2 C3
  have b0 := ((Below.refl w.heap.size w).alloc (Nat.le_refl _) (.cells #[.bool false, .slice none 0 0, .bool false, .slice none 0 0] 27))
  have p0 := Quad.new w (.bool false) (.slice none 0 0) (.bool false) (.slice none 0 0)
  have P_r0 := Hd p0
  have HBW := Hd b0
  clear b0 p0 
  go_enter Tryz.func109, Tryz.ntmps109
  obtain ⟨W, E⟩ : ∃ W, W = (w.alloc (.cells #[.bool false, .slice none 0 0, .bool false, .slice none 0 0] 27)) := ⟨_, rfl⟩
  go_upto_region 1 with fail
  rw [← E] at P_r0 HBW ⊢
  clear E
  go_wp2_with fail
  refine (H1.out W).mono ?_
  rintro e x1 ⟨rfl, hb⟩
  have P_r0 := Hd (P_r0.out.below hb)
  have HBW := Hd (belowTo HBW.out hb)
  clear hb
  go_wp2_with fail
  refine (H2.out x1).mono ?_
  rintro e x2 ⟨v, rfl, hI, hb⟩
  obtain ⟨A1, c1, rfl, r1⟩ := hI.raw
  have hI0 := hI.base (Nat.zero_le _)
  have P_r0 := Hd (P_r0.out.below hb)
  have HBW := Hd (belowTo HBW.out hb)
  have R_n := Hd r1
  clear hb r1
  have O_n := Hd hI0
  clear hI hI0
  go_upto_region 3 with fail
  have ha := ((Below.refl x2.heap.size x2).alloc (Nat.le_refl _) (.cells #[.bool (decide (n < 0)), .slice A1 (natL n.natAbs).length c1] 25))
  have p_n := (Pair.new x2 25 (.bool (decide (n < 0))) (.slice A1 (natL n.natAbs).length c1))
  obtain ⟨y3, E⟩ : ∃ W, W = (x2.alloc (.cells #[.bool (decide (n < 0)), .slice A1 (natL n.natAbs).length c1] 25)) := ⟨_, rfl⟩
  rw [← E] at ha p_n ⊢
  have V_n := Hd (NV.of R_n.out ha p_n)
  have P_r0 := Hd (P_r0.out.below ha)
  have O_n := Hd (O_n.out.below ha)
  have HBW := Hd (belowTo HBW.out ha)
  obtain ⟨g3, hg⟩ : ∃ g, g = x2.heap.size := ⟨_, rfl⟩
  rw [← hg] at V_n ⊢
  clear E ha hg p_n
  go_wp2_with fail
  refine (H3.out y3).mono ?_
  rintro e x4 ⟨v, rfl, hI, hb⟩
  obtain ⟨A2, c2, rfl, r1⟩ := hI.raw
  have hI0 := hI.base (Nat.zero_le _)
  have V_n := Hd (V_n.out.below hb)
  have P_r0 := Hd (P_r0.out.below hb)
  have O_n := Hd (O_n.out.below hb)
  have HBW := Hd (belowTo HBW.out hb)
  have R_d := Hd r1
  clear hb r1
  have O_d := Hd hI0
  clear hI hI0
  go_upto_region 6 with fail
  have ha := ((Below.refl x4.heap.size x4).alloc (Nat.le_refl _) (.cells #[.bool (decide (d < 0)), .slice A2 (natL d.natAbs).length c2] 25))
  have p_d := (Pair.new x4 25 (.bool (decide (d < 0))) (.slice A2 (natL d.natAbs).length c2))
  obtain ⟨y5, E⟩ : ∃ W, W = (x4.alloc (.cells #[.bool (decide (d < 0)), .slice A2 (natL d.natAbs).length c2] 25)) := ⟨_, rfl⟩
  rw [← E] at ha p_d ⊢
  have V_d := Hd (NV.of R_d.out ha p_d)
  have V_n := Hd (V_n.out.below ha)
  have P_r0 := Hd (P_r0.out.below ha)
  have O_n := Hd (O_n.out.below ha)
  have O_d := Hd (O_d.out.below ha)
  have HBW := Hd (belowTo HBW.out ha)
  obtain ⟨g5, hg⟩ : ∃ g, g = x4.heap.size := ⟨_, rfl⟩
  rw [← hg] at V_d ⊢
  clear E ha hg p_d
  obtain ⟨l_n, a_n, b_n, -, -⟩ := V_n.out.pair.facts
  obtain ⟨l_d, a_d, b_d, -, -⟩ := V_d.out.pair.facts
  go_upto_region 7 with fail
  clear l_n a_n b_n l_d a_d b_d
  have ha := (Below.refl y5.heap.size y5).alloc (Nat.le_refl _) (.cells #[.bool (decide (n < 0)), .slice A1 (natL n.natAbs).length c1, .bool (decide (d < 0)), .slice A2 (natL d.natAbs).length c2] 27)
  have pp := Quad.new y5 (.bool (decide (n < 0))) (.slice A1 (natL n.natAbs).length c1) (.bool (decide (d < 0))) (.slice A2 (natL d.natAbs).length c2)
  obtain ⟨y9, E⟩ : ∃ Y, Y = y5.alloc (.cells #[.bool (decide (n < 0)), .slice A1 (natL n.natAbs).length c1, .bool (decide (d < 0)), .slice A2 (natL d.natAbs).length c2] 27) := ⟨_, rfl⟩
  rw [← E] at ha pp ⊢
  have V_n := Hd (V_n.out.below ha)
  have V_d := Hd (V_d.out.below ha)
  have P_r0 := Hd (P_r0.out.below ha)
  have O_n := Hd (O_n.out.below ha)
  have O_d := Hd (O_d.out.below ha)
  have HBW := Hd (belowTo HBW.out ha)
  obtain ⟨gq, hg⟩ : ∃ g, g = y5.heap.size := ⟨_, rfl⟩
  rw [← hg] at pp ⊢
  have V_q := Hd pp
  clear E ha hg pp
  go_wp2_with fail
  obtain ⟨W0, hW⟩ : ∃ W0, W0 = y9 := ⟨_, rfl⟩
  rw [← hW] at HBW P_r0 O_n O_d V_q V_n V_d  ⊢
  clear hW
  refine wp_region_free [.val (.bool true) [], .val (.bool false) [], .val (.bool false) [], .val (.agg #[.bool (decide (d < 0)), .slice A2 (natL d.natAbs).length c2]) [], .val (.int .i64 sg) [], .val (.bool false) [], .val (.bool false) [], .val (.bool false) [], .val (.agg #[.bool (decide (d < 0)), .slice A2 (natL d.natAbs).length c2]) [], .any false (fun u0 V => IntAt V u0 one) [], .val (.int .i64 1) [9], .val (.bool false) [], .val (.bool false) [], .val (.bool false) [], .val (.agg #[.bool (decide (n < 0)), .slice A1 (natL n.natAbs).length c1]) [], .val (.agg #[.bool (decide (d < 0)), .slice A2 (natL d.natAbs).length c2]) [], .any false (fun u0 V => IntAt V u0 g) [], .any false (fun u0 V => IntAt V u0 one) [], .val (.int .i64 1) [16, 17], .val (.bool true) [], .val (.bool true) []] W0.heap.size W0 [] (fun _ _ => False) _ mixedOrders2 (Nat.le_refl _) (Below.refl _ _) (KeptV.refl _ _ _) rfl (by kernel_rfl) (by kernel_rfl) (by kernel_rfl) (by kernel_rfl) (by kernel_rfl) (by kernel_rfl) (by kernel_rfl) (by kernel_rfl) rfl (by simp [oldsF]) ?_ ?_ ?_ ?_
  · simp only [StableF, and_true]
    exact ⟨fun u0 V V' h k => h.keptNone k, fun u0 V V' h k => h.keptNone k, fun u0 V V' h k => h.keptNone k⟩
  · simp only [OldsF]
  · simp (maxSteps := 4000000) [StepsF, DepF, freeAct, fill, pairs]
    repeat' (first | apply And.intro | (intro (u0 : Value)))
    all_goals first
    | (intro V hV hK
       obtain ⟨-, a_n, b_n, -, -⟩ := (V_n.out.below hV).pair.facts
       have r_n := Hd (V_n.out.below hV).raw
       obtain ⟨-, a_d, b_d, -, -⟩ := (V_d.out.below hV).pair.facts
       have r_d := Hd (V_d.out.below hV).raw
       have hle := HLE.out
       clear hV hK
       go_simp
       first
       | exact Below.refl _ _
       | exact ⟨by first | rfl | decide | go_num, Below.refl _ _⟩
       | ((with_reducible refine (esign d sg A2 c2 V r_d.out HSG.out).mono ?_); rintro e w' ⟨rfl, hb⟩; exact ⟨rfl, hb⟩)
       | ((with_reducible refine (eof 1 one HONE.out (by decide) (by decide) V).mono ?_); rintro e w' ⟨v, rfl, hv, hb⟩; exact ⟨hv.at_, hb⟩)
       | ((with_reducible refine (ecommon n d g A1 A2 c1 c2 V r_n.out r_d.out (by omega) (by omega) HG.out).mono ?_); rintro e w' ⟨v, rfl, hv, hb⟩; exact ⟨hv.at_, hb⟩))
    | (intro V hV hK hu
       obtain ⟨A', c', rfl, hr⟩ := hu.form
       have r_d := Hd (V_d.out.below hV).raw
       have r' := Hd hr
       clear hV hK hu hr
       go_simp
       (with_reducible refine (ecmp d one 1 A2 A' c2 c' V r_d.out r'.out (by omega) (by omega) HK1.out).mono ?_)
       rintro e w' ⟨rfl, hb⟩
       exact ⟨rfl, hb⟩)
    | (intro V hV hK hu1 hu2
       obtain ⟨A', c', rfl, hr⟩ := hu1.form
       obtain ⟨A'', c'', rfl, hs⟩ := hu2.form
       have r' := Hd hr
       have r'' := Hd hs
       clear hV hK hu1 hu2 hr hs
       go_simp
       (with_reducible refine (ecmp g one 1 A' A'' c' c'' V r'.out r''.out (by omega) (by omega) HK2.out).mono ?_)
       rintro e w' ⟨rfl, hb⟩
       exact ⟨rfl, hb⟩)
  · simp [EndF, FactsF, freeAct, fill, pairs]
    intro u1 u2 u3 V hV hK _h1 _h2 _h3 _ _ _
    have V_n := Hd (V_n.out.below hV)
    have V_d := Hd (V_d.out.below hV)
    have P_r0 := Hd (P_r0.out.below hV)
    have O_n := Hd (O_n.out.below hV)
    have O_d := Hd (O_d.out.below hV)
    have V_q := Hd (V_q.out.below hV)
    have HBW := Hd (belowTo HBW.out hV)
    clear hV hK
    obtain ⟨v6, hV0⟩ : ∃ Y, Y = V := ⟨_, rfl⟩
    rw [← hV0] at HBW P_r0 O_n O_d V_q V_n V_d  ⊢
    clear hV0
    obtain ⟨l_r0, a_r0, b_r0, f_r0, g_r0⟩ := P_r0.out.facts
    have HQ := Hd (P_r0.out.store (.bool false) (.slice none 0 0) (.bool false) (.slice none 0 0))
    have HB := Hd (below4 HBW.out (show w.heap.size ≤ w.heap.size by omega) (.bool false) (.slice none 0 0) (.bool false) (.slice none 0 0))
    go_wp2_with fail
    obtain ⟨_, k0, k1, k2, k3, _, _, _, _⟩ := HQ.out.facts
    exact bodyPost_ret (by simp [results, Tryz.results109, go_sem, k0, k1, k2, k3]) rfl ⟨_, rfl, FracIn.zero _ _, HB.out⟩

theorem ratio_Read_G (s a b : ByteArray) (n d : Int) (w : World)  (C1 : ∀ V, Calls Tryz.prog 185 #[.string s, .string ⟨#[47]⟩] V fun e w' => e = .returned (.tuple #[.string a, .string b, .bool true]) ∧ Below V.heap.size V w') (C2 : ∀ V, Calls Tryz.prog 186 #[.string a] V (RetZB V n true)) (C3 : ∀ V, Calls Tryz.prog 186 #[.string b] V (RetZB V d true)) (hln : lz n ≤ 7282) (hld : lz d ≤ 7282) (hd : 0 < d) (hd1 : d ≠ 1) (hg : gcdZ n d = 1) :
    Calls Tryz.prog 109 #[.string s] w (RetFracB w n d true) := by
  have H1 := Hd C1
  have H2 := Hd C2
  have H3 := Hd C3
  obtain ⟨one, hone⟩ : ∃ k : Int, k = 1 := ⟨_, rfl⟩
  obtain ⟨sg, hsg⟩ : ∃ k : Int, k = d.sign := ⟨_, rfl⟩
  obtain ⟨g, hg0⟩ : ∃ k : Int, k = gcdZ n d := ⟨_, rfl⟩
  have hol : lz one ≤ 2 := by rw [hone]; decide
  have HONE := Hd hone
  have HSG := Hd hsg
  have HG := Hd (show g = ((Nat.gcd n.natAbs d.natAbs : Nat) : Int) from hg0)
  have HLE := Hd (show decide (sg ≤ 0) = false from decide_eq_false (by rw [hsg, Int.sign_eq_one_of_pos (by omega)]; decide))
  have hgl := gcdZ_lz (n := n) (d := d) (by omega)
  rw [← hg0] at hgl
  have hgp := gcdZ_pos (n := n) (d := d) (by omega)
  have HK1 := Hd (show (1 : Int) = cmpz d one from by rw [hone]; exact (cmpz_gt (by omega)).symm)
  have HK2 := Hd (show (0 : Int) = cmpz g one from by rw [hone, hg0]; rw [hg]; decide)
  clear hone hsg hg0 hd hd1 hg hgp
  clear C1 C2 C3
  have b0 := ((Below.refl w.heap.size w).alloc (Nat.le_refl _) (.cells #[.bool false, .slice none 0 0, .bool false, .slice none 0 0] 27))
  have p0 := Quad.new w (.bool false) (.slice none 0 0) (.bool false) (.slice none 0 0)
  have P_r0 := Hd p0
  have HBW := Hd b0
  clear b0 p0 
  go_enter Tryz.func109, Tryz.ntmps109
  obtain ⟨W, E⟩ : ∃ W, W = (w.alloc (.cells #[.bool false, .slice none 0 0, .bool false, .slice none 0 0] 27)) := ⟨_, rfl⟩
  go_upto_region 1 with fail
  rw [← E] at P_r0 HBW ⊢
  clear E
  go_wp2_with fail
  refine (H1.out W).mono ?_
  rintro e x1 ⟨rfl, hb⟩
  have P_r0 := Hd (P_r0.out.below hb)
  have HBW := Hd (belowTo HBW.out hb)
  clear hb
  go_wp2_with fail
  refine (H2.out x1).mono ?_
  rintro e x2 ⟨v, rfl, hI, hb⟩
  obtain ⟨A1, c1, rfl, r1⟩ := hI.raw
  have hI0 := hI.base (Nat.zero_le _)
  have P_r0 := Hd (P_r0.out.below hb)
  have HBW := Hd (belowTo HBW.out hb)
  have R_n := Hd r1
  clear hb r1
  have O_n := Hd hI0
  clear hI hI0
  go_upto_region 3 with fail
  have ha := ((Below.refl x2.heap.size x2).alloc (Nat.le_refl _) (.cells #[.bool (decide (n < 0)), .slice A1 (natL n.natAbs).length c1] 25))
  have p_n := (Pair.new x2 25 (.bool (decide (n < 0))) (.slice A1 (natL n.natAbs).length c1))
  obtain ⟨y3, E⟩ : ∃ W, W = (x2.alloc (.cells #[.bool (decide (n < 0)), .slice A1 (natL n.natAbs).length c1] 25)) := ⟨_, rfl⟩
  rw [← E] at ha p_n ⊢
  have V_n := Hd (NV.of R_n.out ha p_n)
  have P_r0 := Hd (P_r0.out.below ha)
  have O_n := Hd (O_n.out.below ha)
  have HBW := Hd (belowTo HBW.out ha)
  obtain ⟨g3, hg⟩ : ∃ g, g = x2.heap.size := ⟨_, rfl⟩
  rw [← hg] at V_n ⊢
  clear E ha hg p_n
  go_wp2_with fail
  refine (H3.out y3).mono ?_
  rintro e x4 ⟨v, rfl, hI, hb⟩
  obtain ⟨A2, c2, rfl, r1⟩ := hI.raw
  have hI0 := hI.base (Nat.zero_le _)
  have V_n := Hd (V_n.out.below hb)
  have P_r0 := Hd (P_r0.out.below hb)
  have O_n := Hd (O_n.out.below hb)
  have HBW := Hd (belowTo HBW.out hb)
  have R_d := Hd r1
  clear hb r1
  have O_d := Hd hI0
  clear hI hI0
  go_upto_region 6 with fail
  have ha := ((Below.refl x4.heap.size x4).alloc (Nat.le_refl _) (.cells #[.bool (decide (d < 0)), .slice A2 (natL d.natAbs).length c2] 25))
  have p_d := (Pair.new x4 25 (.bool (decide (d < 0))) (.slice A2 (natL d.natAbs).length c2))
  obtain ⟨y5, E⟩ : ∃ W, W = (x4.alloc (.cells #[.bool (decide (d < 0)), .slice A2 (natL d.natAbs).length c2] 25)) := ⟨_, rfl⟩
  rw [← E] at ha p_d ⊢
  have V_d := Hd (NV.of R_d.out ha p_d)
  have V_n := Hd (V_n.out.below ha)
  have P_r0 := Hd (P_r0.out.below ha)
  have O_n := Hd (O_n.out.below ha)
  have O_d := Hd (O_d.out.below ha)
  have HBW := Hd (belowTo HBW.out ha)
  obtain ⟨g5, hg⟩ : ∃ g, g = x4.heap.size := ⟨_, rfl⟩
  rw [← hg] at V_d ⊢
  clear E ha hg p_d
  obtain ⟨l_n, a_n, b_n, -, -⟩ := V_n.out.pair.facts
  obtain ⟨l_d, a_d, b_d, -, -⟩ := V_d.out.pair.facts
  go_upto_region 7 with fail
  clear l_n a_n b_n l_d a_d b_d
  have ha := (Below.refl y5.heap.size y5).alloc (Nat.le_refl _) (.cells #[.bool (decide (n < 0)), .slice A1 (natL n.natAbs).length c1, .bool (decide (d < 0)), .slice A2 (natL d.natAbs).length c2] 27)
  have pp := Quad.new y5 (.bool (decide (n < 0))) (.slice A1 (natL n.natAbs).length c1) (.bool (decide (d < 0))) (.slice A2 (natL d.natAbs).length c2)
  obtain ⟨y9, E⟩ : ∃ Y, Y = y5.alloc (.cells #[.bool (decide (n < 0)), .slice A1 (natL n.natAbs).length c1, .bool (decide (d < 0)), .slice A2 (natL d.natAbs).length c2] 27) := ⟨_, rfl⟩
  rw [← E] at ha pp ⊢
  have V_n := Hd (V_n.out.below ha)
  have V_d := Hd (V_d.out.below ha)
  have P_r0 := Hd (P_r0.out.below ha)
  have O_n := Hd (O_n.out.below ha)
  have O_d := Hd (O_d.out.below ha)
  have HBW := Hd (belowTo HBW.out ha)
  obtain ⟨gq, hg⟩ : ∃ g, g = y5.heap.size := ⟨_, rfl⟩
  rw [← hg] at pp ⊢
  have V_q := Hd pp
  clear E ha hg pp
  go_wp2_with fail
  obtain ⟨W0, hW⟩ : ∃ W0, W0 = y9 := ⟨_, rfl⟩
  rw [← hW] at HBW P_r0 O_n O_d V_q V_n V_d  ⊢
  clear hW
  refine wp_region_free [.val (.bool true) [], .val (.bool false) [], .val (.bool false) [], .val (.agg #[.bool (decide (d < 0)), .slice A2 (natL d.natAbs).length c2]) [], .val (.int .i64 sg) [], .val (.bool false) [], .val (.bool false) [], .val (.bool false) [], .val (.agg #[.bool (decide (d < 0)), .slice A2 (natL d.natAbs).length c2]) [], .any false (fun u0 V => IntAt V u0 one) [], .val (.int .i64 1) [9], .val (.bool false) [], .val (.bool false) [], .val (.bool false) [], .val (.agg #[.bool (decide (n < 0)), .slice A1 (natL n.natAbs).length c1]) [], .val (.agg #[.bool (decide (d < 0)), .slice A2 (natL d.natAbs).length c2]) [], .any false (fun u0 V => IntAt V u0 g) [], .any false (fun u0 V => IntAt V u0 one) [], .val (.int .i64 0) [16, 17], .val (.bool false) [], .val (.bool false) []] W0.heap.size W0 [] (fun _ _ => False) _ mixedOrders2 (Nat.le_refl _) (Below.refl _ _) (KeptV.refl _ _ _) rfl (by kernel_rfl) (by kernel_rfl) (by kernel_rfl) (by kernel_rfl) (by kernel_rfl) (by kernel_rfl) (by kernel_rfl) (by kernel_rfl) rfl (by simp [oldsF]) ?_ ?_ ?_ ?_
  · simp only [StableF, and_true]
    exact ⟨fun u0 V V' h k => h.keptNone k, fun u0 V V' h k => h.keptNone k, fun u0 V V' h k => h.keptNone k⟩
  · simp only [OldsF]
  · simp (maxSteps := 4000000) [StepsF, DepF, freeAct, fill, pairs]
    repeat' (first | apply And.intro | (intro (u0 : Value)))
    all_goals first
    | (intro V hV hK
       obtain ⟨-, a_n, b_n, -, -⟩ := (V_n.out.below hV).pair.facts
       have r_n := Hd (V_n.out.below hV).raw
       obtain ⟨-, a_d, b_d, -, -⟩ := (V_d.out.below hV).pair.facts
       have r_d := Hd (V_d.out.below hV).raw
       have hle := HLE.out
       clear hV hK
       go_simp
       first
       | exact Below.refl _ _
       | exact ⟨by first | rfl | decide | go_num, Below.refl _ _⟩
       | ((with_reducible refine (esign d sg A2 c2 V r_d.out HSG.out).mono ?_); rintro e w' ⟨rfl, hb⟩; exact ⟨rfl, hb⟩)
       | ((with_reducible refine (eof 1 one HONE.out (by decide) (by decide) V).mono ?_); rintro e w' ⟨v, rfl, hv, hb⟩; exact ⟨hv.at_, hb⟩)
       | ((with_reducible refine (ecommon n d g A1 A2 c1 c2 V r_n.out r_d.out (by omega) (by omega) HG.out).mono ?_); rintro e w' ⟨v, rfl, hv, hb⟩; exact ⟨hv.at_, hb⟩))
    | (intro V hV hK hu
       obtain ⟨A', c', rfl, hr⟩ := hu.form
       have r_d := Hd (V_d.out.below hV).raw
       have r' := Hd hr
       clear hV hK hu hr
       go_simp
       (with_reducible refine (ecmp d one 1 A2 A' c2 c' V r_d.out r'.out (by omega) (by omega) HK1.out).mono ?_)
       rintro e w' ⟨rfl, hb⟩
       exact ⟨rfl, hb⟩)
    | (intro V hV hK hu1 hu2
       obtain ⟨A', c', rfl, hr⟩ := hu1.form
       obtain ⟨A'', c'', rfl, hs⟩ := hu2.form
       have r' := Hd hr
       have r'' := Hd hs
       clear hV hK hu1 hu2 hr hs
       go_simp
       (with_reducible refine (ecmp g one 0 A' A'' c' c'' V r'.out r''.out (by omega) (by omega) HK2.out).mono ?_)
       rintro e w' ⟨rfl, hb⟩
       exact ⟨rfl, hb⟩)
  · simp [EndF, FactsF, freeAct, fill, pairs]
    intro u1 u2 u3 V hV hK _h1 _h2 _h3 _ _ _
    have V_n := Hd (V_n.out.below hV)
    have V_d := Hd (V_d.out.below hV)
    have P_r0 := Hd (P_r0.out.below hV)
    have O_n := Hd (O_n.out.below hV)
    have O_d := Hd (O_d.out.below hV)
    have V_q := Hd (V_q.out.below hV)
    have HBW := Hd (belowTo HBW.out hV)
    clear hV hK
    obtain ⟨v6, hV0⟩ : ∃ Y, Y = V := ⟨_, rfl⟩
    rw [← hV0] at HBW P_r0 O_n O_d V_q V_n V_d  ⊢
    clear hV0
    obtain ⟨l_q, a_q, b_q, c_q, d_q, -, -, -, -⟩ := V_q.out.facts
    have HF : Hid (FracIn v6 0 (.agg #[.bool (decide (n < 0)), .slice A1 (natL n.natAbs).length c1, .bool (decide (d < 0)), .slice A2 (natL d.natAbs).length c2]) n d) := Hd ⟨_, _, _, _, rfl, O_n.out, O_d.out⟩
    obtain ⟨l_r0, a_r0, b_r0, f_r0, g_r0⟩ := P_r0.out.facts
    have HQ := Hd (P_r0.out.store (.bool (decide (n < 0))) (.slice A1 (natL n.natAbs).length c1) (.bool (decide (d < 0))) (.slice A2 (natL d.natAbs).length c2))
    have HB := Hd (below4 HBW.out (show w.heap.size ≤ w.heap.size by omega) (.bool (decide (n < 0))) (.slice A1 (natL n.natAbs).length c1) (.bool (decide (d < 0))) (.slice A2 (natL d.natAbs).length c2))
    have HF9 := Hd (HF.out.quad P_r0.out (.bool (decide (n < 0))) (.slice A1 (natL n.natAbs).length c1) (.bool (decide (d < 0))) (.slice A2 (natL d.natAbs).length c2))
    go_wp2_with fail
    obtain ⟨_, k0, k1, k2, k3, _, _, _, _⟩ := HQ.out.facts
    exact bodyPost_ret (by simp [results, Tryz.results109, go_sem, k0, k1, k2, k3]) rfl ⟨_, rfl, HF9.out, HB.out⟩

theorem ratio_Read (s : ByteArray) (hs : s.size ≤ 65536) (w : World) :
    Calls Tryz.prog 109 #[.string s] w (RetReadF w (readF s.data.toList)) := by
  have C1 := fun V => strings_Cut_bar s hs V
  have hsl : s.data.toList.length ≤ 65536 := by rw [← Lib.size_eq]; exact hs
  have hfl := front_le s.data.toList
  have hbl : (cutB s.data.toList).length ≤ 65536 := by
    unfold cutB
    split
    · exact Nat.le_trans (back_le _) hsl
    · simp
  have C2 := fun V => exact_Read ⟨(frontS s.data.toList).toArray⟩ (by simpa [ByteArray.size] using Nat.le_trans hfl hsl) V
  have C3 := fun V => exact_Read ⟨(cutB s.data.toList).toArray⟩ (by simpa [ByteArray.size] using hbl) V
  simp only at C2 C3
  cases hz : readZ (frontS s.data.toList) with
  | none =>
    have hr : readF s.data.toList = none := by unfold readF; rw [hz]
    rw [hz] at C2
    rw [hr]
    cases hb : decide ((47 : UInt8) ∈ s.data.toList) with
    | false =>
      rw [hb] at C1
      exact (ratio_Read_ff s _ _ 0 w C1 C2).mono fun e w' h => ⟨0, 1, h, fun p hp => by cases hp⟩
    | true =>
      rw [hb] at C1
      exact (ratio_Read_tf s _ _ 0 w C1 C2).mono fun e w' h => ⟨0, 1, h, fun p hp => by cases hp⟩
  | some n =>
    rw [hz] at C2
    have hln := lz_read hz (Nat.le_trans hfl hsl)
    by_cases hb : (47 : UInt8) ∈ s.data.toList
    · rw [decide_eq_true hb] at C1
      have ec : cutB s.data.toList = backS s.data.toList := by unfold cutB; rw [if_pos hb]
      rw [ec] at C1 C3 hbl
      cases hy : readZ (backS s.data.toList) with
      | none =>
        have hr : readF s.data.toList = none := by unfold readF; rw [hz]; simp only; rw [if_pos hb, hy]
        rw [hy] at C3
        rw [hr]
        exact (ratio_Read_C s _ _ n 0 w C1 C2 C3).mono fun e w' h => ⟨0, 0, h, fun p hp => by cases hp⟩
      | some d =>
        rw [hy] at C3
        have hld := lz_read hy hbl
        have hr : readF s.data.toList = if 0 < d ∧ d ≠ 1 ∧ gcdZ n d = 1 then some (n, d) else none := by unfold readF; rw [hz]; simp only; rw [if_pos hb, hy]
        by_cases h0 : 0 < d
        · by_cases h1 : d = 1
          · rw [hr, if_neg (fun h => h.2.1 h1)]
            exact (ratio_Read_E s _ _ n d w C1 C2 C3 hld h1).mono fun e w' h => ⟨0, 0, h, fun p hp => by cases hp⟩
          · by_cases hg : gcdZ n d = 1
            · rw [hr, if_pos ⟨h0, h1, hg⟩]
              exact (ratio_Read_G s _ _ n d w C1 C2 C3 hln hld h0 h1 hg).mono fun e w' h => ⟨n, d, h, fun p hp => (Option.some.inj hp).symm⟩
            · rw [hr, if_neg (fun h => hg h.2.2)]
              exact (ratio_Read_F s _ _ n d w C1 C2 C3 hln hld h0 h1 hg).mono fun e w' h => ⟨0, 0, h, fun p hp => by cases hp⟩
        · rw [hr, if_neg (fun h => h0 h.1)]
          exact (ratio_Read_D s _ _ n d w C1 C2 C3 (by omega)).mono fun e w' h => ⟨0, 0, h, fun p hp => by cases hp⟩
    · rw [decide_eq_false hb] at C1
      have hr : readF s.data.toList = some (n, 1) := by unfold readF; rw [hz]; simp only; rw [if_neg hb]
      rw [hr]
      exact (ratio_Read_ft s _ _ n w C1 C2).mono fun e w' h => ⟨n, 1, h, fun p hp => (Option.some.inj hp).symm⟩
/- FromFloat of the references of chapter 02. (Written by wip/frac/genrfromfloat.py.) -/

/- Plus, Minus, Times, Over, Cmp of the references of chapter 02. (Written by wip/frac/gentrees.py.) -/

structure TurnIn (z d : Int) (B : Option Addr) (e0 : Nat) (v : Value) (V : World) : Prop where
  form : ∃ A c, v = .agg #[.bool (decide (z < 0)), .slice A (natL z.natAbs).length c, .bool (decide (d < 0)), .slice B (natL d.natAbs).length e0] ∧ IntOwn V 0 (.agg #[.bool (decide (z < 0)), .slice A (natL z.natAbs).length c]) z
theorem TurnIn.kept {z d : Int} {B : Option Addr} {e0 b : Nat} {v : Value} {V V' : World} {Ts : List TypeId} (h : TurnIn z d B e0 v V) (k : KeptV b Ts V V') (hT : 104 ∉ Ts) : TurnIn z d B e0 v V' := by
  obtain ⟨A, c, h1, h2⟩ := h.form
  exact ⟨A, c, h1, h2.kept k hT⟩
theorem TurnIn.cells {z d : Int} {B : Option Addr} {e0 : Nat} {v : Value} {V : World} (h : TurnIn z d B e0 v V) : CellsN v 4 := by
  obtain ⟨A, c, rfl, -⟩ := h.form
  exact ⟨rfl, by simp [Value.cells, Value.oneCell']⟩

/- worth, Below of the references of chapter 02. (Written by wip/frac/genbelow.py.) -/

def wrN (r : Nat) : Int := lowN (fval r : Int) unitQ
def wrD (r : Nat) : Int := lowD (fval r : Int) unitQ
theorem unitQ_pos : 0 < unitQ := by have := p2_pos 1074; unfold unitQ; omega
theorem p2_lt {a b : Nat} (h : a < b) : p2 a < p2 b := Nat.pow_lt_pow_right (by omega) h
theorem p2_lz {j : Nat} {x : Int} (h : x.natAbs < p2 (32 * j)) : lz x ≤ j := by
  unfold lz
  refine natL_length_le.2 ?_
  rw [show (4294967296 : Nat) ^ j = p2 (32 * j) by unfold p2; rw [Nat.pow_mul]]
  exact h
def RetRung (w : World) (n d : Int) (e : Ending) (w' : World) : Prop := ∃ b : Int, e = .returned (.int .u64 b) ∧ 0 ≤ b ∧ b < 9218868437227405312 ∧ ((fval b.toNat : Int) * d ≤ n * unitQ ∧ (b + 1 = 9218868437227405312 ∨ n * unitQ < (fval (b + 1).toNat : Int) * d)) ∧ Below w.heap.size w w'

end Go.Proofs.YtipmkkobdbgphaaGreatDoor
