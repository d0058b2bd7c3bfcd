/- Several texts in one: DividesW. -/
import Derived.Test.YtpcdiijmhllejaaDoorBk37
import Derived.Test.YtpcdiijmhllejaaDoorBk38
/- WholeDivides: the walk. (Written by wip/whole/gendivl.py.) -/
namespace Go.Proofs.YtpcdiijmhllejaaDoor
open Go.RowKit

theorem nought_len {z : Int} (h : z = 0) : ((natL z.natAbs).length : Int) = 0 := by subst h; decide
theorem more_len {z : Int} (h : z ≠ 0) : (((natL z.natAbs).length : Int) == 0) = false := beq_false_of_ne (by
  have : (natL z.natAbs).length ≠ 0 := fun e => by
    have := natL_eq_nil.1 (List.eq_nil_of_length_eq_zero e)
    omega
  omega)

set_option maxRecDepth 100000 in
set_option maxHeartbeats 4000000 in
theorem divides_nought (x y : Int) (A B : Option Addr) (c d : Nat) (hx : Fit x) (hy : Fit y) (hy0 : y = 0) (w : World) (h : Raw w A c (natL x.natAbs)) (g : Raw w B d (natL y.natAbs)) (htab : powTab w) :
    Calls Tryd.prog 4 #[.agg #[.bool (decide (x < 0)), .slice A (natL x.natAbs).length c], .agg #[.bool (decide (y < 0)), .slice B (natL y.natAbs).length d]] w fun e w' => e = .returned (.bool true) ∧ Below w.heap.size w w' := by
  obtain ⟨z, hz⟩ : ∃ z : Int, z = 0 := ⟨_, rfl⟩
  have HZ := Lib.hid (And.intro hy0 hz)
  clear hy0 hz
  have px := (Pair.new w 24 (.bool (decide (x < 0))) (.slice A (natL x.natAbs).length c)).alloc (.cells #[.bool (decide (y < 0)), .slice B (natL y.natAbs).length d] 24)
  have py := Pair.new (w.alloc (.cells #[.bool (decide (x < 0)), .slice A (natL x.natAbs).length c] 24)) 24 (.bool (decide (y < 0))) (.slice B (natL y.natAbs).length d)
  have b0 := ((Below.refl w.heap.size w).alloc (Nat.le_refl _) (.cells #[.bool (decide (x < 0)), .slice A (natL x.natAbs).length c] 24)).alloc (by simp) (.cells #[.bool (decide (y < 0)), .slice B (natL y.natAbs).length d] 24)
  simp only [World.size_alloc] at py
  have V_x := Lib.hid (NV.of h b0 px)
  have V_y := Lib.hid (NV.of g b0 py)
  have HT := Lib.hid (htab.below b0)
  have HBW := Lib.hid b0
  clear h g htab px py b0
  go_enter Tryd.func4, Tryd.ntmps4
  obtain ⟨W, E⟩ : ∃ W, W = (w.alloc (.cells #[.bool (decide (x < 0)), .slice A (natL x.natAbs).length c] 24)).alloc (.cells #[.bool (decide (y < 0)), .slice B (natL y.natAbs).length d] 24) := ⟨_, rfl⟩
  go_upto_region 1 with fail
  rw [← E] at V_x V_y HT HBW ⊢
  clear E
  have F_x := Lib.hid hx
  have F_y := Lib.hid hy
  clear hx hy
  go_wp2_with fail
  refine (alive_true W HT.out).mono ?_
  rintro e x1 ⟨rfl, hb⟩
  have V_x := Lib.hid (V_x.out.below hb)
  have V_y := Lib.hid (V_y.out.below hb)
  have HT := Lib.hid (HT.out.below hb)
  have HBW := Lib.hid (belowTo HBW.out hb)
  clear hb
  obtain ⟨l_x, a_x, b_x, -, -⟩ := V_x.out.pair.facts
  obtain ⟨l_y, a_y, b_y, -, -⟩ := V_y.out.pair.facts
  go_wp2_with fail
  refine (may2 x y A B c d x1 V_x.out.raw V_y.out.raw F_x.out F_y.out 24).mono ?_
  rintro e x2 ⟨rfl, hb⟩
  clear l_x a_x b_x l_y a_y b_y
  have V_x := Lib.hid (V_x.out.below hb)
  have V_y := Lib.hid (V_y.out.below hb)
  have HT := Lib.hid (HT.out.below hb)
  have HBW := Lib.hid (belowTo HBW.out hb)
  clear hb
  obtain ⟨l_x, a_x, b_x, -, -⟩ := V_x.out.pair.facts
  obtain ⟨l_y, a_y, b_y, -, -⟩ := V_y.out.pair.facts
  go_wp2_with fail
  refine (quorem_nought x y z A B c d F_x.out F_y.out x2 V_x.out.raw V_y.out.raw HZ.out.1 HZ.out.2).mono ?_
  rintro e x3 ⟨A1, c1, A2, c2, rfl, r1, r2, hb⟩
  clear l_x a_x b_x l_y a_y b_y
  have V_x := Lib.hid (V_x.out.below hb)
  have V_y := Lib.hid (V_y.out.below hb)
  have HT := Lib.hid (HT.out.below hb)
  have HBW := Lib.hid (belowTo HBW.out hb)
  have R_q := Lib.hid r1
  have R_r := Lib.hid r2
  clear hb r1 r2
  go_upto_region 4 with fail
  have ha := (((Below.refl x3.heap.size x3).alloc (Nat.le_refl _) (.cells #[.bool (decide (z < 0)), .slice A1 (natL z.natAbs).length c1] 24)).alloc (by simp) (.cells #[.bool (decide (z < 0)), .slice A2 (natL z.natAbs).length c2] 24))
  have p_q := ((Pair.new x3 24 (.bool (decide (z < 0))) (.slice A1 (natL z.natAbs).length c1)).alloc (.cells #[.bool (decide (z < 0)), .slice A2 (natL z.natAbs).length c2] 24))
  have p_r := (Pair.new (x3.alloc (.cells #[.bool (decide (z < 0)), .slice A1 (natL z.natAbs).length c1] 24)) 24 (.bool (decide (z < 0))) (.slice A2 (natL z.natAbs).length c2))
  simp only [World.size_alloc] at p_r
  obtain ⟨y4, E⟩ : ∃ W, W = ((x3.alloc (.cells #[.bool (decide (z < 0)), .slice A1 (natL z.natAbs).length c1] 24)).alloc (.cells #[.bool (decide (z < 0)), .slice A2 (natL z.natAbs).length c2] 24)) := ⟨_, rfl⟩
  rw [← E] at ha p_q p_r ⊢
  have V_q := Lib.hid (NV.of R_q.out ha p_q)
  have V_r := Lib.hid (NV.of R_r.out ha p_r)
  have V_x := Lib.hid (V_x.out.below ha)
  have V_y := Lib.hid (V_y.out.below ha)
  have HT := Lib.hid (HT.out.below ha)
  have HBW := Lib.hid (belowTo HBW.out ha)
  obtain ⟨g4, hg⟩ : ∃ g, g = x3.heap.size := ⟨_, rfl⟩
  rw [← hg] at V_q V_r ⊢
  clear E ha hg p_q p_r
  obtain ⟨l_y, a_y, b_y, -, -⟩ := V_y.out.pair.facts
  obtain ⟨l_q, a_q, b_q, -, -⟩ := V_q.out.pair.facts
  obtain ⟨l_r, a_r, b_r, -, -⟩ := V_r.out.pair.facts
  have hly := nought_len HZ.out.1
  have hlz := nought_len HZ.out.2
  go_wp2_with fail
  go_ret
  exact ⟨rfl, HBW.out⟩

theorem tdiv_fit {x y : Int} (h : Fit x) : Fit (x.tdiv y) := h.mono (by rw [Int.natAbs_tdiv]; exact Nat.div_le_self _ _)
theorem tmod_fit {x y : Int} (h : Fit x) : Fit (x.tmod y) := h.mono (by rw [Int.natAbs_tmod]; exact Nat.mod_le _ _)
theorem tdiv_mul_fit {x y : Int} (h : Fit x) : Fit (x.tdiv y * y) := h.mono (by
  rw [Int.natAbs_mul, Int.natAbs_tdiv]
  exact Nat.div_mul_le_self _ _)
/-- Sizes held against each other: the numbers' signs left out. -/
theorem cmp_sizes (r y : Int) (A B : Option Addr) (c d : Nat) (hr : Fit r) (hy : Fit y) (hl : r.natAbs < y.natAbs) (w : World) (h : Raw w A c (natL r.natAbs)) (g : Raw w B d (natL y.natAbs)) :
    Calls Tryd.prog 13 #[.agg #[.bool false, .slice A (natL r.natAbs).length c], .agg #[.bool false, .slice B (natL y.natAbs).length d]] w fun e w' => e = .returned (.int .i64 (-1)) ∧ Below w.heap.size w w' := by
  have := whole_Cmp_any false false A B c d _ _ w h g
  have o1 : okI false (natL r.natAbs) = true := okI_true.2 ⟨hr, canon_natL _, fun _ => rfl⟩
  have o2 : okI false (natL y.natAbs) = true := okI_true.2 ⟨hy, canon_natL _, fun _ => rfl⟩
  rw [o1, o2, Bool.and_self, if_pos rfl] at this
  have e : cmpz (ival false (natL r.natAbs)) (ival false (natL y.natAbs)) = -1 := by
    refine cmpz_lt ?_
    unfold ival
    rw [val_natL, val_natL]
    simp; omega
  rw [e] at this
  exact this

set_option maxRecDepth 100000 in
set_option maxHeartbeats 4000000 in
theorem divides_none (x y : Int) (A B : Option Addr) (c d : Nat) (hx : Fit x) (hy : Fit y) (hy0 : y ≠ 0) (hr0 : x.tmod y = 0) (w : World) (h : Raw w A c (natL x.natAbs)) (g : Raw w B d (natL y.natAbs)) (htab : powTab w) :
    Calls Tryd.prog 4 #[.agg #[.bool (decide (x < 0)), .slice A (natL x.natAbs).length c], .agg #[.bool (decide (y < 0)), .slice B (natL y.natAbs).length d]] w fun e w' => e = .returned (.bool true) ∧ Below w.heap.size w w' := by
  obtain ⟨q, hq⟩ : ∃ q : Int, q = x.tdiv y := ⟨_, rfl⟩
  obtain ⟨r, hr⟩ : ∃ r : Int, r = x.tmod y := ⟨_, rfl⟩
  obtain ⟨z, hz⟩ : ∃ z : Int, z = q * y := ⟨_, rfl⟩
  have F_q := Lib.hid (show Fit q from by rw [hq]; exact tdiv_fit hx)
  have F_r := Lib.hid (show Fit r from by rw [hr]; exact tmod_fit hx)
  have F_z := Lib.hid (show Fit z from by rw [hz, hq]; exact tdiv_mul_fit hx)
  have HX := Lib.hid (show x = z + r from by rw [hz, hq, hr]; have h1 := Int.tmod_add_mul_tdiv x y; rw [Int.mul_comm (x.tdiv y) y]; omega)
  have HLT := Lib.hid (show r.natAbs < y.natAbs from by rw [hr, Int.natAbs_tmod]; exact Nat.mod_lt _ (by omega))
  have HS := Lib.hid (show (0 : Int) = r.sign from by rw [hr]; rw [hr0]; rfl)
  have HQ := Lib.hid (And.intro hq (And.intro hr (And.intro hz hy0)))
  clear hr0 hy0 hq hr hz
  have px := (Pair.new w 24 (.bool (decide (x < 0))) (.slice A (natL x.natAbs).length c)).alloc (.cells #[.bool (decide (y < 0)), .slice B (natL y.natAbs).length d] 24)
  have py := Pair.new (w.alloc (.cells #[.bool (decide (x < 0)), .slice A (natL x.natAbs).length c] 24)) 24 (.bool (decide (y < 0))) (.slice B (natL y.natAbs).length d)
  have b0 := ((Below.refl w.heap.size w).alloc (Nat.le_refl _) (.cells #[.bool (decide (x < 0)), .slice A (natL x.natAbs).length c] 24)).alloc (by simp) (.cells #[.bool (decide (y < 0)), .slice B (natL y.natAbs).length d] 24)
  simp only [World.size_alloc] at py
  have V_x := Lib.hid (NV.of h b0 px)
  have V_y := Lib.hid (NV.of g b0 py)
  have HT := Lib.hid (htab.below b0)
  have HBW := Lib.hid b0
  clear h g htab px py b0
  go_enter Tryd.func4, Tryd.ntmps4
  obtain ⟨W, E⟩ : ∃ W, W = (w.alloc (.cells #[.bool (decide (x < 0)), .slice A (natL x.natAbs).length c] 24)).alloc (.cells #[.bool (decide (y < 0)), .slice B (natL y.natAbs).length d] 24) := ⟨_, rfl⟩
  go_upto_region 1 with fail
  rw [← E] at V_x V_y HT HBW ⊢
  clear E
  have F_x := Lib.hid hx
  have F_y := Lib.hid hy
  clear hx hy
  go_wp2_with fail
  refine (alive_true W HT.out).mono ?_
  rintro e x1 ⟨rfl, hb⟩
  have V_x := Lib.hid (V_x.out.below hb)
  have V_y := Lib.hid (V_y.out.below hb)
  have HT := Lib.hid (HT.out.below hb)
  have HBW := Lib.hid (belowTo HBW.out hb)
  clear hb
  obtain ⟨l_x, a_x, b_x, -, -⟩ := V_x.out.pair.facts
  obtain ⟨l_y, a_y, b_y, -, -⟩ := V_y.out.pair.facts
  go_wp2_with fail
  refine (may2 x y A B c d x1 V_x.out.raw V_y.out.raw F_x.out F_y.out 24).mono ?_
  rintro e x2 ⟨rfl, hb⟩
  clear l_x a_x b_x l_y a_y b_y
  have V_x := Lib.hid (V_x.out.below hb)
  have V_y := Lib.hid (V_y.out.below hb)
  have HT := Lib.hid (HT.out.below hb)
  have HBW := Lib.hid (belowTo HBW.out hb)
  clear hb
  obtain ⟨l_x, a_x, b_x, -, -⟩ := V_x.out.pair.facts
  obtain ⟨l_y, a_y, b_y, -, -⟩ := V_y.out.pair.facts
  go_wp2_with fail
  refine (quorem_z x y A B c d F_x.out F_y.out x2 V_x.out.raw V_y.out.raw q r HQ.out.2.2.2 HQ.out.1 HQ.out.2.1).mono ?_
  rintro e x3 ⟨A1, c1, A2, c2, rfl, r1, r2, hb⟩
  clear l_x a_x b_x l_y a_y b_y
  have V_x := Lib.hid (V_x.out.below hb)
  have V_y := Lib.hid (V_y.out.below hb)
  have HT := Lib.hid (HT.out.below hb)
  have HBW := Lib.hid (belowTo HBW.out hb)
  have R_q := Lib.hid r1
  have R_r := Lib.hid r2
  clear hb r1 r2
  go_upto_region 4 with fail
  have ha := (((Below.refl x3.heap.size x3).alloc (Nat.le_refl _) (.cells #[.bool (decide (q < 0)), .slice A1 (natL q.natAbs).length c1] 24)).alloc (by simp) (.cells #[.bool (decide (r < 0)), .slice A2 (natL r.natAbs).length c2] 24))
  have p_q := ((Pair.new x3 24 (.bool (decide (q < 0))) (.slice A1 (natL q.natAbs).length c1)).alloc (.cells #[.bool (decide (r < 0)), .slice A2 (natL r.natAbs).length c2] 24))
  have p_r := (Pair.new (x3.alloc (.cells #[.bool (decide (q < 0)), .slice A1 (natL q.natAbs).length c1] 24)) 24 (.bool (decide (r < 0))) (.slice A2 (natL r.natAbs).length c2))
  simp only [World.size_alloc] at p_r
  obtain ⟨y4, E⟩ : ∃ W, W = ((x3.alloc (.cells #[.bool (decide (q < 0)), .slice A1 (natL q.natAbs).length c1] 24)).alloc (.cells #[.bool (decide (r < 0)), .slice A2 (natL r.natAbs).length c2] 24)) := ⟨_, rfl⟩
  rw [← E] at ha p_q p_r ⊢
  have V_q := Lib.hid (NV.of R_q.out ha p_q)
  have V_r := Lib.hid (NV.of R_r.out ha p_r)
  have V_x := Lib.hid (V_x.out.below ha)
  have V_y := Lib.hid (V_y.out.below ha)
  have HT := Lib.hid (HT.out.below ha)
  have HBW := Lib.hid (belowTo HBW.out ha)
  obtain ⟨g4, hg⟩ : ∃ g, g = x3.heap.size := ⟨_, rfl⟩
  rw [← hg] at V_q V_r ⊢
  clear E ha hg p_q p_r
  have hly := more_len HQ.out.2.2.2
  obtain ⟨l_y, a_y, b_y, -, -⟩ := V_y.out.pair.facts
  obtain ⟨l_q, a_q, b_q, -, -⟩ := V_q.out.pair.facts
  obtain ⟨l_r, a_r, b_r, -, -⟩ := V_r.out.pair.facts
  go_wp2_with fail
  refine (may2 q r A1 A2 c1 c2 y4 V_q.out.raw V_r.out.raw F_q.out F_r.out 24).mono ?_
  rintro e x5 ⟨rfl, hb⟩
  clear l_y a_y b_y l_q a_q b_q l_r a_r b_r
  have V_x := Lib.hid (V_x.out.below hb)
  have V_y := Lib.hid (V_y.out.below hb)
  have V_q := Lib.hid (V_q.out.below hb)
  have V_r := Lib.hid (V_r.out.below hb)
  have HT := Lib.hid (HT.out.below hb)
  have HBW := Lib.hid (belowTo HBW.out hb)
  clear hb
  clear hly
  obtain ⟨l_r, a_r, b_r, -, -⟩ := V_r.out.pair.facts
  go_wp2_with fail
  refine (sign_z r A2 c2 F_r.out x5 V_r.out.raw (0) HS.out).mono ?_
  rintro e x6 ⟨rfl, hb⟩
  clear l_r a_r b_r
  have V_x := Lib.hid (V_x.out.below hb)
  have V_y := Lib.hid (V_y.out.below hb)
  have V_q := Lib.hid (V_q.out.below hb)
  have V_r := Lib.hid (V_r.out.below hb)
  have HT := Lib.hid (HT.out.below hb)
  have HBW := Lib.hid (belowTo HBW.out hb)
  clear hb
  obtain ⟨l_x, a_x, b_x, -, -⟩ := V_x.out.pair.facts
  obtain ⟨l_y, a_y, b_y, -, -⟩ := V_y.out.pair.facts
  obtain ⟨l_r, a_r, b_r, -, -⟩ := V_r.out.pair.facts
  go_wp2_with fail
  refine (cmp_sizes r y A2 B c2 d F_r.out F_y.out HLT.out x6 V_r.out.raw V_y.out.raw).mono ?_
  rintro e x7 ⟨rfl, hb⟩
  clear l_x a_x b_x l_y a_y b_y l_r a_r b_r
  have V_x := Lib.hid (V_x.out.below hb)
  have V_y := Lib.hid (V_y.out.below hb)
  have V_q := Lib.hid (V_q.out.below hb)
  have V_r := Lib.hid (V_r.out.below hb)
  have HT := Lib.hid (HT.out.below hb)
  have HBW := Lib.hid (belowTo HBW.out hb)
  clear hb
  go_upto_region 9 with fail
  have ha := (Below.refl x7.heap.size x7).alloc (Nat.le_refl _) (.cells #[.bool true] 4)
  have hp := Blk.new x7 4 #[.bool true]
  obtain ⟨Y, E⟩ : ∃ Y, Y = x7.alloc (.cells #[.bool true] 4) := ⟨_, rfl⟩
  rw [← E] at ha hp ⊢
  have V_x := Lib.hid (V_x.out.below ha)
  have V_y := Lib.hid (V_y.out.below ha)
  have V_q := Lib.hid (V_q.out.below ha)
  have V_r := Lib.hid (V_r.out.below ha)
  have HT := Lib.hid (HT.out.below ha)
  have HBW := Lib.hid (belowTo HBW.out ha)
  obtain ⟨p, hpp⟩ : ∃ p, p = x7.heap.size := ⟨_, rfl⟩
  rw [← hpp] at hp ⊢
  have P := Lib.hid hp
  clear E ha hp hpp
  refine wp_region_free [.val (.agg #[.bool (decide (q < 0)), .slice A1 (natL q.natAbs).length c1]) [], .val (.agg #[.bool (decide (y < 0)), .slice B (natL y.natAbs).length d]) [], .any false (fun u0 V => IntOwn V 0 u0 z) [], .val (.agg #[.bool (decide (r < 0)), .slice A2 (natL r.natAbs).length c2]) [], .any false (fun u0 V => IntOwn V 0 u0 x) [2], .new 24 2, .put 24 2 5 4 []]
    Y.heap.size Y [24] (fun _ _ => False) _ mixedOrders2 (Nat.le_refl _) (Below.refl _ _) (KeptV.refl _ _ _) rfl (by kernel_rfl) (by kernel_rfl) (by kernel_rfl) (by kernel_rfl) (by kernel_rfl) (by kernel_rfl) (by kernel_rfl) (by kernel_rfl) rfl (by simp [oldsF]) ?_ ?_ ?_ ?_
  · simp only [StableF, and_true]
    exact ⟨fun u0 V V' h k => h.kept k (by decide), fun u0 V V' h k => h.kept k (by decide)⟩
  · simp only [OldsF]
  · simp [StepsF, DepF, freeAct, fill, pairs]
    repeat' (first | apply And.intro | (intro (u0 : Value)) | (intro (u0 : Nat)))
    all_goals try exact ⟨_, _, _, rfl, rfl, rfl, rfl, intInfo⟩
    all_goals try exact allocInt rfl
    all_goals first
    | (intro V hV hK
       obtain ⟨-, aq, bq, -, -⟩ := (V_q.out.below hV).pair.facts
       obtain ⟨-, ar, br, -, -⟩ := (V_r.out.below hV).pair.facts
       obtain ⟨-, ay, byy, -, -⟩ := (V_y.out.below hV).pair.facts
       have rq := Lib.hid (V_q.out.below hV).raw
       have ry := Lib.hid (V_y.out.below hV).raw
       have pp := Lib.hid (P.out.below hV P.out.lt)
       clear hV hK
       go_simp
       first
       | exact Below.refl _ _
       | ((with_reducible refine (times_o q y z A1 B c1 d p F_q.out F_y.out V rq.out ry.out pp.out HQ.out.2.2.1 F_z.out).mono ?_); rintro e w' ⟨v, rfl, hv, hb⟩; exact ⟨hv.base (Nat.zero_le _), hb⟩))
    | (intro V hV hK hu
       obtain ⟨A', c', rfl, hr⟩ := hu.raw
       have r' := Lib.hid hr
       have rr := Lib.hid (V_r.out.below hV).raw
       have pp := Lib.hid (P.out.below hV P.out.lt)
       clear hV hK hu hr
       go_simp
       (with_reducible refine (sum_o z r x A' A2 c' c2 p F_z.out F_r.out V r'.out rr.out pp.out HX.out F_x.out).mono ?_)
       rintro e w' ⟨v, rfl, hv, hb⟩
       exact ⟨hv.base (Nat.zero_le _), hb⟩)
    | exact fun _ _ _ (h : IntOwn _ _ _ _) => h.cells
  · simp [EndF, FactsF, freeAct, fill, pairs]
    intro u1 u2 bs hbs V hV hK h1 h2 p1 _ _ _
    obtain ⟨A3, c3, rfl, r3⟩ := h2.raw
    have V_s := Lib.hid (show NV V bs x A3 c3 from ⟨⟨p1⟩, r3⟩)
    have V_x := Lib.hid (V_x.out.below hV)
    have P := Lib.hid (P.out.below hV P.out.lt)
    have HBW := Lib.hid (belowTo HBW.out hV)
    obtain ⟨l_s, a_s, b_s, -, -⟩ := V_s.out.pair.facts
    obtain ⟨l_x, a_x, b_x, -, -⟩ := V_x.out.pair.facts
    have hok := P.out.cell 0
    have hkl := P.out.lt
    simp at hok
    clear h1 h2 p1 r3 hV hK
    go_wp2_with fail
    refine (same_z x x A3 A c3 c V V_s.out.raw V_x.out.raw true (by simp)).mono ?_
    rintro e wf ⟨rfl, hb⟩
    have HF := Lib.hid (belowTo HBW.out hb)
    clear hb l_s a_s b_s l_x a_x b_x hok hkl
    go_wp2_with fail
    go_ret
    exact ⟨rfl, HF.out⟩

set_option maxRecDepth 100000 in
set_option maxHeartbeats 4000000 in
theorem divides_up (x y : Int) (A B : Option Addr) (c d : Nat) (hx : Fit x) (hy : Fit y) (hy0 : y ≠ 0) (hr0 : 0 < x.tmod y) (w : World) (h : Raw w A c (natL x.natAbs)) (g : Raw w B d (natL y.natAbs)) (htab : powTab w) :
    Calls Tryd.prog 4 #[.agg #[.bool (decide (x < 0)), .slice A (natL x.natAbs).length c], .agg #[.bool (decide (y < 0)), .slice B (natL y.natAbs).length d]] w fun e w' => e = .returned (.bool true) ∧ Below w.heap.size w w' := by
  obtain ⟨q, hq⟩ : ∃ q : Int, q = x.tdiv y := ⟨_, rfl⟩
  obtain ⟨r, hr⟩ : ∃ r : Int, r = x.tmod y := ⟨_, rfl⟩
  obtain ⟨z, hz⟩ : ∃ z : Int, z = q * y := ⟨_, rfl⟩
  have F_q := Lib.hid (show Fit q from by rw [hq]; exact tdiv_fit hx)
  have F_r := Lib.hid (show Fit r from by rw [hr]; exact tmod_fit hx)
  have F_z := Lib.hid (show Fit z from by rw [hz, hq]; exact tdiv_mul_fit hx)
  have HX := Lib.hid (show x = z + r from by rw [hz, hq, hr]; have h1 := Int.tmod_add_mul_tdiv x y; rw [Int.mul_comm (x.tdiv y) y]; omega)
  have HLT := Lib.hid (show r.natAbs < y.natAbs from by rw [hr, Int.natAbs_tmod]; exact Nat.mod_lt _ (by omega))
  have HS := Lib.hid (show (1 : Int) = r.sign from by rw [hr]; exact (Int.sign_eq_one_of_pos hr0).symm)
  have HXS := Lib.hid (show decide (r < 0) = false ∧ decide (x < 0) = false from by
    rw [hr]
    refine ⟨decide_eq_false (by omega), decide_eq_false (fun h => ?_)⟩
    have h1 := Int.tmod_nonneg y (show 0 ≤ -x by omega)
    rw [Int.neg_tmod] at h1
    omega)
  have HQ := Lib.hid (And.intro hq (And.intro hr (And.intro hz hy0)))
  clear hr0 hy0 hq hr hz
  have px := (Pair.new w 24 (.bool (decide (x < 0))) (.slice A (natL x.natAbs).length c)).alloc (.cells #[.bool (decide (y < 0)), .slice B (natL y.natAbs).length d] 24)
  have py := Pair.new (w.alloc (.cells #[.bool (decide (x < 0)), .slice A (natL x.natAbs).length c] 24)) 24 (.bool (decide (y < 0))) (.slice B (natL y.natAbs).length d)
  have b0 := ((Below.refl w.heap.size w).alloc (Nat.le_refl _) (.cells #[.bool (decide (x < 0)), .slice A (natL x.natAbs).length c] 24)).alloc (by simp) (.cells #[.bool (decide (y < 0)), .slice B (natL y.natAbs).length d] 24)
  simp only [World.size_alloc] at py
  have V_x := Lib.hid (NV.of h b0 px)
  have V_y := Lib.hid (NV.of g b0 py)
  have HT := Lib.hid (htab.below b0)
  have HBW := Lib.hid b0
  clear h g htab px py b0
  go_enter Tryd.func4, Tryd.ntmps4
  obtain ⟨W, E⟩ : ∃ W, W = (w.alloc (.cells #[.bool (decide (x < 0)), .slice A (natL x.natAbs).length c] 24)).alloc (.cells #[.bool (decide (y < 0)), .slice B (natL y.natAbs).length d] 24) := ⟨_, rfl⟩
  go_upto_region 1 with fail
  rw [← E] at V_x V_y HT HBW ⊢
  clear E
  have F_x := Lib.hid hx
  have F_y := Lib.hid hy
  clear hx hy
  go_wp2_with fail
  refine (alive_true W HT.out).mono ?_
  rintro e x1 ⟨rfl, hb⟩
  have V_x := Lib.hid (V_x.out.below hb)
  have V_y := Lib.hid (V_y.out.below hb)
  have HT := Lib.hid (HT.out.below hb)
  have HBW := Lib.hid (belowTo HBW.out hb)
  clear hb
  obtain ⟨l_x, a_x, b_x, -, -⟩ := V_x.out.pair.facts
  obtain ⟨l_y, a_y, b_y, -, -⟩ := V_y.out.pair.facts
  go_wp2_with fail
  refine (may2 x y A B c d x1 V_x.out.raw V_y.out.raw F_x.out F_y.out 24).mono ?_
  rintro e x2 ⟨rfl, hb⟩
  clear l_x a_x b_x l_y a_y b_y
  have V_x := Lib.hid (V_x.out.below hb)
  have V_y := Lib.hid (V_y.out.below hb)
  have HT := Lib.hid (HT.out.below hb)
  have HBW := Lib.hid (belowTo HBW.out hb)
  clear hb
  obtain ⟨l_x, a_x, b_x, -, -⟩ := V_x.out.pair.facts
  obtain ⟨l_y, a_y, b_y, -, -⟩ := V_y.out.pair.facts
  go_wp2_with fail
  refine (quorem_z x y A B c d F_x.out F_y.out x2 V_x.out.raw V_y.out.raw q r HQ.out.2.2.2 HQ.out.1 HQ.out.2.1).mono ?_
  rintro e x3 ⟨A1, c1, A2, c2, rfl, r1, r2, hb⟩
  clear l_x a_x b_x l_y a_y b_y
  have V_x := Lib.hid (V_x.out.below hb)
  have V_y := Lib.hid (V_y.out.below hb)
  have HT := Lib.hid (HT.out.below hb)
  have HBW := Lib.hid (belowTo HBW.out hb)
  have R_q := Lib.hid r1
  have R_r := Lib.hid r2
  clear hb r1 r2
  go_upto_region 4 with fail
  have ha := (((Below.refl x3.heap.size x3).alloc (Nat.le_refl _) (.cells #[.bool (decide (q < 0)), .slice A1 (natL q.natAbs).length c1] 24)).alloc (by simp) (.cells #[.bool (decide (r < 0)), .slice A2 (natL r.natAbs).length c2] 24))
  have p_q := ((Pair.new x3 24 (.bool (decide (q < 0))) (.slice A1 (natL q.natAbs).length c1)).alloc (.cells #[.bool (decide (r < 0)), .slice A2 (natL r.natAbs).length c2] 24))
  have p_r := (Pair.new (x3.alloc (.cells #[.bool (decide (q < 0)), .slice A1 (natL q.natAbs).length c1] 24)) 24 (.bool (decide (r < 0))) (.slice A2 (natL r.natAbs).length c2))
  simp only [World.size_alloc] at p_r
  obtain ⟨y4, E⟩ : ∃ W, W = ((x3.alloc (.cells #[.bool (decide (q < 0)), .slice A1 (natL q.natAbs).length c1] 24)).alloc (.cells #[.bool (decide (r < 0)), .slice A2 (natL r.natAbs).length c2] 24)) := ⟨_, rfl⟩
  rw [← E] at ha p_q p_r ⊢
  have V_q := Lib.hid (NV.of R_q.out ha p_q)
  have V_r := Lib.hid (NV.of R_r.out ha p_r)
  have V_x := Lib.hid (V_x.out.below ha)
  have V_y := Lib.hid (V_y.out.below ha)
  have HT := Lib.hid (HT.out.below ha)
  have HBW := Lib.hid (belowTo HBW.out ha)
  obtain ⟨g4, hg⟩ : ∃ g, g = x3.heap.size := ⟨_, rfl⟩
  rw [← hg] at V_q V_r ⊢
  clear E ha hg p_q p_r
  have hly := more_len HQ.out.2.2.2
  obtain ⟨l_y, a_y, b_y, -, -⟩ := V_y.out.pair.facts
  obtain ⟨l_q, a_q, b_q, -, -⟩ := V_q.out.pair.facts
  obtain ⟨l_r, a_r, b_r, -, -⟩ := V_r.out.pair.facts
  go_wp2_with fail
  refine (may2 q r A1 A2 c1 c2 y4 V_q.out.raw V_r.out.raw F_q.out F_r.out 24).mono ?_
  rintro e x5 ⟨rfl, hb⟩
  clear l_y a_y b_y l_q a_q b_q l_r a_r b_r
  have V_x := Lib.hid (V_x.out.below hb)
  have V_y := Lib.hid (V_y.out.below hb)
  have V_q := Lib.hid (V_q.out.below hb)
  have V_r := Lib.hid (V_r.out.below hb)
  have HT := Lib.hid (HT.out.below hb)
  have HBW := Lib.hid (belowTo HBW.out hb)
  clear hb
  clear hly
  obtain ⟨l_r, a_r, b_r, -, -⟩ := V_r.out.pair.facts
  go_wp2_with fail
  refine (sign_z r A2 c2 F_r.out x5 V_r.out.raw (1) HS.out).mono ?_
  rintro e x6 ⟨rfl, hb⟩
  clear l_r a_r b_r
  have V_x := Lib.hid (V_x.out.below hb)
  have V_y := Lib.hid (V_y.out.below hb)
  have V_q := Lib.hid (V_q.out.below hb)
  have V_r := Lib.hid (V_r.out.below hb)
  have HT := Lib.hid (HT.out.below hb)
  have HBW := Lib.hid (belowTo HBW.out hb)
  clear hb
  obtain ⟨hs1, hs2⟩ := HXS.out
  obtain ⟨l_x, a_x, b_x, -, -⟩ := V_x.out.pair.facts
  obtain ⟨l_y, a_y, b_y, -, -⟩ := V_y.out.pair.facts
  obtain ⟨l_r, a_r, b_r, -, -⟩ := V_r.out.pair.facts
  go_wp2_with fail
  refine (cmp_sizes r y A2 B c2 d F_r.out F_y.out HLT.out x6 V_r.out.raw V_y.out.raw).mono ?_
  rintro e x7 ⟨rfl, hb⟩
  clear l_x a_x b_x l_y a_y b_y l_r a_r b_r
  have V_x := Lib.hid (V_x.out.below hb)
  have V_y := Lib.hid (V_y.out.below hb)
  have V_q := Lib.hid (V_q.out.below hb)
  have V_r := Lib.hid (V_r.out.below hb)
  have HT := Lib.hid (HT.out.below hb)
  have HBW := Lib.hid (belowTo HBW.out hb)
  clear hb
  clear hs1 hs2
  go_upto_region 9 with fail
  have ha := (Below.refl x7.heap.size x7).alloc (Nat.le_refl _) (.cells #[.bool true] 4)
  have hp := Blk.new x7 4 #[.bool true]
  obtain ⟨Y, E⟩ : ∃ Y, Y = x7.alloc (.cells #[.bool true] 4) := ⟨_, rfl⟩
  rw [← E] at ha hp ⊢
  have V_x := Lib.hid (V_x.out.below ha)
  have V_y := Lib.hid (V_y.out.below ha)
  have V_q := Lib.hid (V_q.out.below ha)
  have V_r := Lib.hid (V_r.out.below ha)
  have HT := Lib.hid (HT.out.below ha)
  have HBW := Lib.hid (belowTo HBW.out ha)
  obtain ⟨p, hpp⟩ : ∃ p, p = x7.heap.size := ⟨_, rfl⟩
  rw [← hpp] at hp ⊢
  have P := Lib.hid hp
  clear E ha hp hpp
  refine wp_region_free [.val (.agg #[.bool (decide (q < 0)), .slice A1 (natL q.natAbs).length c1]) [], .val (.agg #[.bool (decide (y < 0)), .slice B (natL y.natAbs).length d]) [], .any false (fun u0 V => IntOwn V 0 u0 z) [], .val (.agg #[.bool (decide (r < 0)), .slice A2 (natL r.natAbs).length c2]) [], .any false (fun u0 V => IntOwn V 0 u0 x) [2], .new 24 2, .put 24 2 5 4 []]
    Y.heap.size Y [24] (fun _ _ => False) _ mixedOrders2 (Nat.le_refl _) (Below.refl _ _) (KeptV.refl _ _ _) rfl (by kernel_rfl) (by kernel_rfl) (by kernel_rfl) (by kernel_rfl) (by kernel_rfl) (by kernel_rfl) (by kernel_rfl) (by kernel_rfl) rfl (by simp [oldsF]) ?_ ?_ ?_ ?_
  · simp only [StableF, and_true]
    exact ⟨fun u0 V V' h k => h.kept k (by decide), fun u0 V V' h k => h.kept k (by decide)⟩
  · simp only [OldsF]
  · simp [StepsF, DepF, freeAct, fill, pairs]
    repeat' (first | apply And.intro | (intro (u0 : Value)) | (intro (u0 : Nat)))
    all_goals try exact ⟨_, _, _, rfl, rfl, rfl, rfl, intInfo⟩
    all_goals try exact allocInt rfl
    all_goals first
    | (intro V hV hK
       obtain ⟨-, aq, bq, -, -⟩ := (V_q.out.below hV).pair.facts
       obtain ⟨-, ar, br, -, -⟩ := (V_r.out.below hV).pair.facts
       obtain ⟨-, ay, byy, -, -⟩ := (V_y.out.below hV).pair.facts
       have rq := Lib.hid (V_q.out.below hV).raw
       have ry := Lib.hid (V_y.out.below hV).raw
       have pp := Lib.hid (P.out.below hV P.out.lt)
       clear hV hK
       go_simp
       first
       | exact Below.refl _ _
       | ((with_reducible refine (times_o q y z A1 B c1 d p F_q.out F_y.out V rq.out ry.out pp.out HQ.out.2.2.1 F_z.out).mono ?_); rintro e w' ⟨v, rfl, hv, hb⟩; exact ⟨hv.base (Nat.zero_le _), hb⟩))
    | (intro V hV hK hu
       obtain ⟨A', c', rfl, hr⟩ := hu.raw
       have r' := Lib.hid hr
       have rr := Lib.hid (V_r.out.below hV).raw
       have pp := Lib.hid (P.out.below hV P.out.lt)
       clear hV hK hu hr
       go_simp
       (with_reducible refine (sum_o z r x A' A2 c' c2 p F_z.out F_r.out V r'.out rr.out pp.out HX.out F_x.out).mono ?_)
       rintro e w' ⟨v, rfl, hv, hb⟩
       exact ⟨hv.base (Nat.zero_le _), hb⟩)
    | exact fun _ _ _ (h : IntOwn _ _ _ _) => h.cells
  · simp [EndF, FactsF, freeAct, fill, pairs]
    intro u1 u2 bs hbs V hV hK h1 h2 p1 _ _ _
    obtain ⟨A3, c3, rfl, r3⟩ := h2.raw
    have V_s := Lib.hid (show NV V bs x A3 c3 from ⟨⟨p1⟩, r3⟩)
    have V_x := Lib.hid (V_x.out.below hV)
    have P := Lib.hid (P.out.below hV P.out.lt)
    have HBW := Lib.hid (belowTo HBW.out hV)
    obtain ⟨l_s, a_s, b_s, -, -⟩ := V_s.out.pair.facts
    obtain ⟨l_x, a_x, b_x, -, -⟩ := V_x.out.pair.facts
    have hok := P.out.cell 0
    have hkl := P.out.lt
    simp at hok
    clear h1 h2 p1 r3 hV hK
    go_wp2_with fail
    refine (same_z x x A3 A c3 c V V_s.out.raw V_x.out.raw true (by simp)).mono ?_
    rintro e wf ⟨rfl, hb⟩
    have HF := Lib.hid (belowTo HBW.out hb)
    clear hb l_s a_s b_s l_x a_x b_x hok hkl
    go_wp2_with fail
    go_ret
    exact ⟨rfl, HF.out⟩

set_option maxRecDepth 100000 in
set_option maxHeartbeats 4000000 in
theorem divides_down (x y : Int) (A B : Option Addr) (c d : Nat) (hx : Fit x) (hy : Fit y) (hy0 : y ≠ 0) (hr0 : x.tmod y < 0) (w : World) (h : Raw w A c (natL x.natAbs)) (g : Raw w B d (natL y.natAbs)) (htab : powTab w) :
    Calls Tryd.prog 4 #[.agg #[.bool (decide (x < 0)), .slice A (natL x.natAbs).length c], .agg #[.bool (decide (y < 0)), .slice B (natL y.natAbs).length d]] w fun e w' => e = .returned (.bool true) ∧ Below w.heap.size w w' := by
  obtain ⟨q, hq⟩ : ∃ q : Int, q = x.tdiv y := ⟨_, rfl⟩
  obtain ⟨r, hr⟩ : ∃ r : Int, r = x.tmod y := ⟨_, rfl⟩
  obtain ⟨z, hz⟩ : ∃ z : Int, z = q * y := ⟨_, rfl⟩
  have F_q := Lib.hid (show Fit q from by rw [hq]; exact tdiv_fit hx)
  have F_r := Lib.hid (show Fit r from by rw [hr]; exact tmod_fit hx)
  have F_z := Lib.hid (show Fit z from by rw [hz, hq]; exact tdiv_mul_fit hx)
  have HX := Lib.hid (show x = z + r from by rw [hz, hq, hr]; have h1 := Int.tmod_add_mul_tdiv x y; rw [Int.mul_comm (x.tdiv y) y]; omega)
  have HLT := Lib.hid (show r.natAbs < y.natAbs from by rw [hr, Int.natAbs_tmod]; exact Nat.mod_lt _ (by omega))
  have HS := Lib.hid (show (-1 : Int) = r.sign from by rw [hr]; exact (Int.sign_eq_neg_one_of_neg hr0).symm)
  have HXS := Lib.hid (show decide (r < 0) = true ∧ decide (x < 0) = true from by
    rw [hr]
    refine ⟨decide_eq_true hr0, decide_eq_true ?_⟩
    by_cases h : x < 0
    · exact h
    · have := Int.tmod_nonneg y (show 0 ≤ x by omega)
      omega)
  have HQ := Lib.hid (And.intro hq (And.intro hr (And.intro hz hy0)))
  clear hr0 hy0 hq hr hz
  have px := (Pair.new w 24 (.bool (decide (x < 0))) (.slice A (natL x.natAbs).length c)).alloc (.cells #[.bool (decide (y < 0)), .slice B (natL y.natAbs).length d] 24)
  have py := Pair.new (w.alloc (.cells #[.bool (decide (x < 0)), .slice A (natL x.natAbs).length c] 24)) 24 (.bool (decide (y < 0))) (.slice B (natL y.natAbs).length d)
  have b0 := ((Below.refl w.heap.size w).alloc (Nat.le_refl _) (.cells #[.bool (decide (x < 0)), .slice A (natL x.natAbs).length c] 24)).alloc (by simp) (.cells #[.bool (decide (y < 0)), .slice B (natL y.natAbs).length d] 24)
  simp only [World.size_alloc] at py
  have V_x := Lib.hid (NV.of h b0 px)
  have V_y := Lib.hid (NV.of g b0 py)
  have HT := Lib.hid (htab.below b0)
  have HBW := Lib.hid b0
  clear h g htab px py b0
  go_enter Tryd.func4, Tryd.ntmps4
  obtain ⟨W, E⟩ : ∃ W, W = (w.alloc (.cells #[.bool (decide (x < 0)), .slice A (natL x.natAbs).length c] 24)).alloc (.cells #[.bool (decide (y < 0)), .slice B (natL y.natAbs).length d] 24) := ⟨_, rfl⟩
  go_upto_region 1 with fail
  rw [← E] at V_x V_y HT HBW ⊢
  clear E
  have F_x := Lib.hid hx
  have F_y := Lib.hid hy
  clear hx hy
  go_wp2_with fail
  refine (alive_true W HT.out).mono ?_
  rintro e x1 ⟨rfl, hb⟩
  have V_x := Lib.hid (V_x.out.below hb)
  have V_y := Lib.hid (V_y.out.below hb)
  have HT := Lib.hid (HT.out.below hb)
  have HBW := Lib.hid (belowTo HBW.out hb)
  clear hb
  obtain ⟨l_x, a_x, b_x, -, -⟩ := V_x.out.pair.facts
  obtain ⟨l_y, a_y, b_y, -, -⟩ := V_y.out.pair.facts
  go_wp2_with fail
  refine (may2 x y A B c d x1 V_x.out.raw V_y.out.raw F_x.out F_y.out 24).mono ?_
  rintro e x2 ⟨rfl, hb⟩
  clear l_x a_x b_x l_y a_y b_y
  have V_x := Lib.hid (V_x.out.below hb)
  have V_y := Lib.hid (V_y.out.below hb)
  have HT := Lib.hid (HT.out.below hb)
  have HBW := Lib.hid (belowTo HBW.out hb)
  clear hb
  obtain ⟨l_x, a_x, b_x, -, -⟩ := V_x.out.pair.facts
  obtain ⟨l_y, a_y, b_y, -, -⟩ := V_y.out.pair.facts
  go_wp2_with fail
  refine (quorem_z x y A B c d F_x.out F_y.out x2 V_x.out.raw V_y.out.raw q r HQ.out.2.2.2 HQ.out.1 HQ.out.2.1).mono ?_
  rintro e x3 ⟨A1, c1, A2, c2, rfl, r1, r2, hb⟩
  clear l_x a_x b_x l_y a_y b_y
  have V_x := Lib.hid (V_x.out.below hb)
  have V_y := Lib.hid (V_y.out.below hb)
  have HT := Lib.hid (HT.out.below hb)
  have HBW := Lib.hid (belowTo HBW.out hb)
  have R_q := Lib.hid r1
  have R_r := Lib.hid r2
  clear hb r1 r2
  go_upto_region 4 with fail
  have ha := (((Below.refl x3.heap.size x3).alloc (Nat.le_refl _) (.cells #[.bool (decide (q < 0)), .slice A1 (natL q.natAbs).length c1] 24)).alloc (by simp) (.cells #[.bool (decide (r < 0)), .slice A2 (natL r.natAbs).length c2] 24))
  have p_q := ((Pair.new x3 24 (.bool (decide (q < 0))) (.slice A1 (natL q.natAbs).length c1)).alloc (.cells #[.bool (decide (r < 0)), .slice A2 (natL r.natAbs).length c2] 24))
  have p_r := (Pair.new (x3.alloc (.cells #[.bool (decide (q < 0)), .slice A1 (natL q.natAbs).length c1] 24)) 24 (.bool (decide (r < 0))) (.slice A2 (natL r.natAbs).length c2))
  simp only [World.size_alloc] at p_r
  obtain ⟨y4, E⟩ : ∃ W, W = ((x3.alloc (.cells #[.bool (decide (q < 0)), .slice A1 (natL q.natAbs).length c1] 24)).alloc (.cells #[.bool (decide (r < 0)), .slice A2 (natL r.natAbs).length c2] 24)) := ⟨_, rfl⟩
  rw [← E] at ha p_q p_r ⊢
  have V_q := Lib.hid (NV.of R_q.out ha p_q)
  have V_r := Lib.hid (NV.of R_r.out ha p_r)
  have V_x := Lib.hid (V_x.out.below ha)
  have V_y := Lib.hid (V_y.out.below ha)
  have HT := Lib.hid (HT.out.below ha)
  have HBW := Lib.hid (belowTo HBW.out ha)
  obtain ⟨g4, hg⟩ : ∃ g, g = x3.heap.size := ⟨_, rfl⟩
  rw [← hg] at V_q V_r ⊢
  clear E ha hg p_q p_r
  have hly := more_len HQ.out.2.2.2
  obtain ⟨l_y, a_y, b_y, -, -⟩ := V_y.out.pair.facts
  obtain ⟨l_q, a_q, b_q, -, -⟩ := V_q.out.pair.facts
  obtain ⟨l_r, a_r, b_r, -, -⟩ := V_r.out.pair.facts
  go_wp2_with fail
  refine (may2 q r A1 A2 c1 c2 y4 V_q.out.raw V_r.out.raw F_q.out F_r.out 24).mono ?_
  rintro e x5 ⟨rfl, hb⟩
  clear l_y a_y b_y l_q a_q b_q l_r a_r b_r
  have V_x := Lib.hid (V_x.out.below hb)
  have V_y := Lib.hid (V_y.out.below hb)
  have V_q := Lib.hid (V_q.out.below hb)
  have V_r := Lib.hid (V_r.out.below hb)
  have HT := Lib.hid (HT.out.below hb)
  have HBW := Lib.hid (belowTo HBW.out hb)
  clear hb
  clear hly
  obtain ⟨l_r, a_r, b_r, -, -⟩ := V_r.out.pair.facts
  go_wp2_with fail
  refine (sign_z r A2 c2 F_r.out x5 V_r.out.raw (-1) HS.out).mono ?_
  rintro e x6 ⟨rfl, hb⟩
  clear l_r a_r b_r
  have V_x := Lib.hid (V_x.out.below hb)
  have V_y := Lib.hid (V_y.out.below hb)
  have V_q := Lib.hid (V_q.out.below hb)
  have V_r := Lib.hid (V_r.out.below hb)
  have HT := Lib.hid (HT.out.below hb)
  have HBW := Lib.hid (belowTo HBW.out hb)
  clear hb
  obtain ⟨hs1, hs2⟩ := HXS.out
  obtain ⟨l_x, a_x, b_x, -, -⟩ := V_x.out.pair.facts
  obtain ⟨l_y, a_y, b_y, -, -⟩ := V_y.out.pair.facts
  obtain ⟨l_r, a_r, b_r, -, -⟩ := V_r.out.pair.facts
  go_wp2_with fail
  refine (cmp_sizes r y A2 B c2 d F_r.out F_y.out HLT.out x6 V_r.out.raw V_y.out.raw).mono ?_
  rintro e x7 ⟨rfl, hb⟩
  clear l_x a_x b_x l_y a_y b_y l_r a_r b_r
  have V_x := Lib.hid (V_x.out.below hb)
  have V_y := Lib.hid (V_y.out.below hb)
  have V_q := Lib.hid (V_q.out.below hb)
  have V_r := Lib.hid (V_r.out.below hb)
  have HT := Lib.hid (HT.out.below hb)
  have HBW := Lib.hid (belowTo HBW.out hb)
  clear hb
  clear hs1 hs2
  go_upto_region 9 with fail
  have ha := (Below.refl x7.heap.size x7).alloc (Nat.le_refl _) (.cells #[.bool true] 4)
  have hp := Blk.new x7 4 #[.bool true]
  obtain ⟨Y, E⟩ : ∃ Y, Y = x7.alloc (.cells #[.bool true] 4) := ⟨_, rfl⟩
  rw [← E] at ha hp ⊢
  have V_x := Lib.hid (V_x.out.below ha)
  have V_y := Lib.hid (V_y.out.below ha)
  have V_q := Lib.hid (V_q.out.below ha)
  have V_r := Lib.hid (V_r.out.below ha)
  have HT := Lib.hid (HT.out.below ha)
  have HBW := Lib.hid (belowTo HBW.out ha)
  obtain ⟨p, hpp⟩ : ∃ p, p = x7.heap.size := ⟨_, rfl⟩
  rw [← hpp] at hp ⊢
  have P := Lib.hid hp
  clear E ha hp hpp
  refine wp_region_free [.val (.agg #[.bool (decide (q < 0)), .slice A1 (natL q.natAbs).length c1]) [], .val (.agg #[.bool (decide (y < 0)), .slice B (natL y.natAbs).length d]) [], .any false (fun u0 V => IntOwn V 0 u0 z) [], .val (.agg #[.bool (decide (r < 0)), .slice A2 (natL r.natAbs).length c2]) [], .any false (fun u0 V => IntOwn V 0 u0 x) [2], .new 24 2, .put 24 2 5 4 []]
    Y.heap.size Y [24] (fun _ _ => False) _ mixedOrders2 (Nat.le_refl _) (Below.refl _ _) (KeptV.refl _ _ _) rfl (by kernel_rfl) (by kernel_rfl) (by kernel_rfl) (by kernel_rfl) (by kernel_rfl) (by kernel_rfl) (by kernel_rfl) (by kernel_rfl) rfl (by simp [oldsF]) ?_ ?_ ?_ ?_
  · simp only [StableF, and_true]
    exact ⟨fun u0 V V' h k => h.kept k (by decide), fun u0 V V' h k => h.kept k (by decide)⟩
  · simp only [OldsF]
  · simp [StepsF, DepF, freeAct, fill, pairs]
    repeat' (first | apply And.intro | (intro (u0 : Value)) | (intro (u0 : Nat)))
    all_goals try exact ⟨_, _, _, rfl, rfl, rfl, rfl, intInfo⟩
    all_goals try exact allocInt rfl
    all_goals first
    | (intro V hV hK
       obtain ⟨-, aq, bq, -, -⟩ := (V_q.out.below hV).pair.facts
       obtain ⟨-, ar, br, -, -⟩ := (V_r.out.below hV).pair.facts
       obtain ⟨-, ay, byy, -, -⟩ := (V_y.out.below hV).pair.facts
       have rq := Lib.hid (V_q.out.below hV).raw
       have ry := Lib.hid (V_y.out.below hV).raw
       have pp := Lib.hid (P.out.below hV P.out.lt)
       clear hV hK
       go_simp
       first
       | exact Below.refl _ _
       | ((with_reducible refine (times_o q y z A1 B c1 d p F_q.out F_y.out V rq.out ry.out pp.out HQ.out.2.2.1 F_z.out).mono ?_); rintro e w' ⟨v, rfl, hv, hb⟩; exact ⟨hv.base (Nat.zero_le _), hb⟩))
    | (intro V hV hK hu
       obtain ⟨A', c', rfl, hr⟩ := hu.raw
       have r' := Lib.hid hr
       have rr := Lib.hid (V_r.out.below hV).raw
       have pp := Lib.hid (P.out.below hV P.out.lt)
       clear hV hK hu hr
       go_simp
       (with_reducible refine (sum_o z r x A' A2 c' c2 p F_z.out F_r.out V r'.out rr.out pp.out HX.out F_x.out).mono ?_)
       rintro e w' ⟨v, rfl, hv, hb⟩
       exact ⟨hv.base (Nat.zero_le _), hb⟩)
    | exact fun _ _ _ (h : IntOwn _ _ _ _) => h.cells
  · simp [EndF, FactsF, freeAct, fill, pairs]
    intro u1 u2 bs hbs V hV hK h1 h2 p1 _ _ _
    obtain ⟨A3, c3, rfl, r3⟩ := h2.raw
    have V_s := Lib.hid (show NV V bs x A3 c3 from ⟨⟨p1⟩, r3⟩)
    have V_x := Lib.hid (V_x.out.below hV)
    have P := Lib.hid (P.out.below hV P.out.lt)
    have HBW := Lib.hid (belowTo HBW.out hV)
    obtain ⟨l_s, a_s, b_s, -, -⟩ := V_s.out.pair.facts
    obtain ⟨l_x, a_x, b_x, -, -⟩ := V_x.out.pair.facts
    have hok := P.out.cell 0
    have hkl := P.out.lt
    simp at hok
    clear h1 h2 p1 r3 hV hK
    go_wp2_with fail
    refine (same_z x x A3 A c3 c V V_s.out.raw V_x.out.raw true (by simp)).mono ?_
    rintro e wf ⟨rfl, hb⟩
    have HF := Lib.hid (belowTo HBW.out hb)
    clear hb l_s a_s b_s l_x a_x b_x hok hkl
    go_wp2_with fail
    go_ret
    exact ⟨rfl, HF.out⟩

set_option maxRecDepth 100000 in
set_option maxHeartbeats 2000000 in
theorem divides_bad (n1 n2 : Bool) (A B : Option Addr) (c d : Nat) (xs ys : List Nat) (o : (okI n1 xs && okI n2 ys) = false) (w : World) (h : Raw w A c xs) (g : Raw w B d ys) (htab : powTab w) :
    Calls Tryd.prog 4 #[.agg #[.bool n1, .slice A xs.length c], .agg #[.bool n2, .slice B ys.length d]] w fun e w' => e = .returned (.bool true) ∧ Below w.heap.size w w' := by
  have p0 := (Pair.new w 24 (.bool n1) (.slice A xs.length c)).alloc (.cells #[.bool n2, .slice B ys.length d] 24)
  have p1 := Pair.new (w.alloc (.cells #[.bool n1, .slice A xs.length c] 24)) 24 (.bool n2) (.slice B ys.length d)
  have r0 := ((h.alloc (.cells #[.bool n1, .slice A xs.length c] 24)).alloc (.cells #[.bool n2, .slice B ys.length d] 24))
  have r1 := ((g.alloc (.cells #[.bool n1, .slice A xs.length c] 24)).alloc (.cells #[.bool n2, .slice B ys.length d] 24))
  have b0 := (((Below.refl w.heap.size w).alloc (Nat.le_refl _) (.cells #[.bool n1, .slice A xs.length c] 24)).alloc (by simp) (.cells #[.bool n2, .slice B ys.length d] 24))
  simp only [World.size_alloc] at p1
  have HT := Lib.hid (htab.below b0)
  have HO := Lib.hid o
  clear h g htab o
  go_enter Tryd.func4, Tryd.ntmps4
  obtain ⟨W, E⟩ : ∃ W, W = ((w.alloc (.cells #[.bool n1, .slice A xs.length c] 24)).alloc (.cells #[.bool n2, .slice B ys.length d] 24)) := ⟨_, rfl⟩
  go_upto_region 1 with fail
  rw [← E] at p0 r0 p1 r1 b0 HT ⊢
  clear E
  have P0 := Lib.hid p0
  have R0 := Lib.hid r0
  have P1 := Lib.hid p1
  have R1 := Lib.hid r1
  have HB := Lib.hid b0
  clear p0 r0 p1 r1 b0
  go_wp2_with fail
  refine (alive_true W HT.out).mono ?_
  rintro e x1 ⟨rfl, hb⟩
  have P0 := Lib.hid (P0.out.below hb)
  have R0 := Lib.hid (R0.out.below hb)
  have P1 := Lib.hid (P1.out.below hb)
  have R1 := Lib.hid (R1.out.below hb)
  have HT := Lib.hid (HT.out.below hb)
  have HB := Lib.hid (belowTo HB.out hb)
  clear hb
  obtain ⟨l0, a0, b0, -, -⟩ := P0.out.facts
  obtain ⟨l1, a1, b1, -, -⟩ := P1.out.facts
  go_wp2_with fail
  refine (may_list [(n1, A, c, xs), (n2, B, d, ys)] (by simp) x1 (by intro m hm; simp at hm; rcases hm with rfl | rfl <;> first | exact R0.out | exact R1.out) 24 false (by have := HO.out; simp only [List.all_cons, List.all_nil, Bool.and_true, okNum]; exact this.symm)).mono ?_
  rintro e x2 ⟨rfl, hb⟩
  have HT := Lib.hid (HT.out.below hb)
  have HB := Lib.hid (belowTo HB.out hb)
  clear hb l0 a0 b0 l1 a1 b1
  go_wp2_with fail
  refine (alive_true x2 HT.out).mono ?_
  rintro e x3 ⟨rfl, hb⟩
  have HF := Lib.hid (belowTo HB.out hb)
  clear hb
  go_wp2_with fail
  go_ret
  exact ⟨rfl, HF.out⟩

theorem divides_true (n1 n2 : Bool) (A B : Option Addr) (c d : Nat) (xs ys : List Nat) (w : World) (h : Raw w A c xs) (g : Raw w B d ys) (htab : powTab w) :
    Calls Tryd.prog 4 #[.agg #[.bool n1, .slice A xs.length c], .agg #[.bool n2, .slice B ys.length d]] w fun e w' => e = .returned (.bool true) ∧ Below w.heap.size w w' := by
  by_cases o : (okI n1 xs && okI n2 ys) = true
  · obtain ⟨o1, o2⟩ := Bool.and_eq_true_iff.1 o
    obtain ⟨e1, e2, e3⟩ := ok_num h.limbs o1
    obtain ⟨f1, f2, f3⟩ := ok_num g.limbs o2
    generalize ival n1 xs = x at *
    generalize ival n2 ys = y at *
    subst e1 e2 f1 f2
    by_cases hy : y = 0
    · exact divides_nought x y A B c d e3 f3 hy w h g htab
    · rcases (by omega : x.tmod y = 0 ∨ 0 < x.tmod y ∨ x.tmod y < 0) with hr | hr | hr
      · exact divides_none x y A B c d e3 f3 hy hr w h g htab
      · exact divides_up x y A B c d e3 f3 hy hr w h g htab
      · exact divides_down x y A B c d e3 f3 hy hr w h g htab
  · exact divides_bad n1 n2 A B c d xs ys (by simpa using o) w h g htab
end Go.Proofs.YtpcdiijmhllejaaDoor
