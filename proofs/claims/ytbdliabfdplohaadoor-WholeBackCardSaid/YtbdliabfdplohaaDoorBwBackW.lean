/- Several texts in one: BackW. -/
import Derived.Test.YtbdliabfdplohaaDoorBw20
import Derived.Test.YtbdliabfdplohaaDoorBwHd
import Derived.Test.YtbdliabfdplohaaDoorBw21
import Derived.Test.YtbdliabfdplohaaDoorBw25
import Derived.Test.YtbdliabfdplohaaDoorBwTextsW
set_option maxRecDepth 100000
set_option maxHeartbeats 8000000
/- WholeBack: the walk. (Written by wip/whole/genback.py.) -/
namespace Go.Proofs.YtbdliabfdplohaaDoor
open Go.RowKit

theorem same_b (x y : Int) (A B : Option Addr) (c d : Nat) (w : World) (h : Raw w A c (natL x.natAbs)) (g : Raw w B d (natL y.natAbs)) :
    Calls Tryd.prog 16 #[.agg #[.bool (decide (x < 0)), .slice A (natL x.natAbs).length c], .agg #[.bool (decide (y < 0)), .slice B (natL y.natAbs).length d]] w fun e w' => e = .returned (.bool (decide (x = y))) ∧ Below w.heap.size w w' := by
  have := same_any (decide (x < 0)) (decide (y < 0)) A B c d _ _ w h g
  have e : decide (decide (x < 0) = decide (y < 0) ∧ natL x.natAbs = natL y.natAbs) = decide (x = y) := by
    by_cases hxy : x = y
    · subst hxy; simp
    · rw [decide_eq_false hxy]
      have : ¬ (decide (x < 0) = decide (y < 0) ∧ natL x.natAbs = natL y.natAbs) := by
        rintro ⟨h1, h2⟩
        have h3 : x.natAbs = y.natAbs := by rw [← val_natL x.natAbs, ← val_natL y.natAbs, h2]
        have h4 : (x < 0) ↔ (y < 0) := by simpa using h1
        omega
      simpa using this
  rw [e] at this
  exact this
theorem same_none (x : Int) (A : Option Addr) (c : Nat) (w : World) (h : Raw w A c (natL x.natAbs)) (hx : x = 0) :
    Calls Tryd.prog 16 #[.agg #[.bool (decide (x < 0)), .slice A (natL x.natAbs).length c], .agg #[.bool false, .slice none 0 0]] w fun e w' => e = .returned (.bool true) ∧ Below w.heap.size w w' := by
  subst hx
  have g : Raw w none 0 (natL (0 : Int).natAbs) := ⟨(fun x hx => by cases hx), Nat.le_refl _, by omega, Reads.none_⟩
  exact same_b 0 0 A none c 0 w h g
theorem dig_room (k : Nat) (hk : 0 < k) (n : Nat) (h : (natL n).length ≤ k) : (Lib.decDigits n).length ≤ 10 * k := by
  refine dec_short (10 * k) n (by omega) ?_
  have h1 := natL_length_le.1 h
  refine Nat.lt_of_lt_of_le h1 ?_
  rw [Nat.pow_mul]
  exact Nat.pow_le_pow_left (by decide) _
theorem itoa_room {x : Int} (h : Fit x) : (Lib.itoa x).length ≤ 65536 := by
  have hd := dig_room 2048 (by omega) x.natAbs h
  unfold Lib.itoa
  split
  · rw [List.length_cons]; omega
  · rw [show x.toNat = x.natAbs by omega]; omega
theorem text_b (x : Int) (hx : Fit x) (T : ByteArray) (hT : T = ⟨(Lib.itoa x).toArray⟩) (A : Option Addr) (c : Nat) (w : World) (h : Raw w A c (natL x.natAbs)) (htab : powTab w) :
    Calls Tryd.prog 8 #[.agg #[.bool (decide (x < 0)), .slice A (natL x.natAbs).length c]] w fun e w' => e = .returned (.tuple #[.string T, .int .i64 0]) ∧ Below w.heap.size w w' := by
  have h1 := whole_Text (decide (x < 0)) A c _ w h htab
  unfold txtL errI at h1
  rw [hx.ok, ival_at] at h1
  rw [hT]
  exact h1
theorem parse_told (x : Int) (hx : Fit x) (T : ByteArray) (hT : T = ⟨(Lib.itoa x).toArray⟩) (w : World) :
    Calls Tryd.prog 9 #[.string T] w (RetInt2 w.heap.size w x 0) := by
  have h1 := whole_Parse T w
  have e : T.data.toList = Lib.itoa x := by rw [hT]
  unfold prsV prsE at h1
  rw [e, if_neg (by have := itoa_room hx; omega), if_neg (by have := itoa_room hx; omega), readZ_itoa] at h1
  have h2 : toldV x = x := toldV_fits hx
  have h3 : toldE x = 0 := toldE_fits hx
  simp only [h2, h3] at h1
  exact h1
theorem parse_cases (s : ByteArray) : (prsV s.data.toList = 0 ∧ prsE s.data.toList = 4) ∨ (prsV s.data.toList = 0 ∧ prsE s.data.toList = 5) ∨ (prsE s.data.toList = 0 ∧ Fit (prsV s.data.toList) ∧ (⟨(Lib.itoa (prsV s.data.toList)).toArray⟩ : ByteArray) = s) := by
  unfold prsV prsE
  by_cases hl : 65536 < s.data.toList.length
  · rw [if_pos hl, if_pos hl]; exact .inl ⟨rfl, rfl⟩
  · rw [if_neg hl, if_neg hl]
    cases hz : readZ s.data.toList with
    | none => exact .inr (.inl ⟨rfl, rfl⟩)
    | some z =>
      by_cases hf : (natL z.natAbs).length ≤ 2048
      · refine .inr (.inr ⟨toldE_fits hf, ?_, ?_⟩)
        · show Fit (toldV z)
          rw [toldV_fits hf]; exact hf
        · show (⟨(Lib.itoa (toldV z)).toArray⟩ : ByteArray) = s
          rw [toldV_fits hf, itoa_readZ hz]
      · exact .inl ⟨toldV_long (by omega), toldE_long (by omega)⟩

theorem back_bad (s : ByteArray) (n1 n2 : Bool) (A B : Option Addr) (c d : Nat) (xs ys : List Nat) (o : (okI n1 xs && okI n2 ys) = false) (w : World) (h : Raw w A c xs) (g : Raw w B d ys) (htab : powTab w) :
    Calls Tryd.prog 4 #[.agg #[.bool n1, .slice A xs.length c], .agg #[.bool n2, .slice B ys.length d], .string s] w fun e w' => e = .returned (.bool true) ∧ Below w.heap.size w w' := by
  have p0 := (Pair.new w 24 (.bool n1) (.slice A xs.length c)).alloc (.cells #[.bool n2, .slice B ys.length d] 24)
  have p1 := Pair.new (w.alloc (.cells #[.bool n1, .slice A xs.length c] 24)) 24 (.bool n2) (.slice B ys.length d)
  have r0 := ((h.alloc (.cells #[.bool n1, .slice A xs.length c] 24)).alloc (.cells #[.bool n2, .slice B ys.length d] 24))
  have r1 := ((g.alloc (.cells #[.bool n1, .slice A xs.length c] 24)).alloc (.cells #[.bool n2, .slice B ys.length d] 24))
  have b0 := (((Below.refl w.heap.size w).alloc (Nat.le_refl _) (.cells #[.bool n1, .slice A xs.length c] 24)).alloc (by simp) (.cells #[.bool n2, .slice B ys.length d] 24))
  simp only [World.size_alloc] at p1
  have HT := Hd (htab.below b0)
  have HO := Hd o
  clear h g htab o
  go_enter Tryd.func4, Tryd.ntmps4
  obtain ⟨W, E⟩ : ∃ W, W = ((w.alloc (.cells #[.bool n1, .slice A xs.length c] 24)).alloc (.cells #[.bool n2, .slice B ys.length d] 24)) := ⟨_, rfl⟩
  go_upto_region 1 with fail
  rw [← E] at p0 r0 p1 r1 b0 HT ⊢
  clear E
  have P0 := Hd p0
  have R0 := Hd r0
  have P1 := Hd p1
  have R1 := Hd r1
  have HB := Hd b0
  clear p0 r0 p1 r1 b0
  go_wp2_with fail
  refine (alive_true W HT.out).mono ?_
  rintro e x1 ⟨rfl, hb⟩
  have P0 := Hd (P0.out.below hb)
  have R0 := Hd (R0.out.below hb)
  have P1 := Hd (P1.out.below hb)
  have R1 := Hd (R1.out.below hb)
  have HT := Hd (HT.out.below hb)
  have HB := Hd (belowTo HB.out hb)
  clear hb
  obtain ⟨l0, a0, b0, -, -⟩ := P0.out.facts
  obtain ⟨l1, a1, b1, -, -⟩ := P1.out.facts
  go_wp2_with fail
  refine (may_list [(n1, A, c, xs), (n2, B, d, ys)] (by simp) x1 (by intro m hm; simp at hm; rcases hm with rfl | rfl <;> first | exact R0.out | exact R1.out) 24 false (by have := HO.out; simp only [List.all_cons, List.all_nil, Bool.and_true, okNum]; exact this.symm)).mono ?_
  rintro e x2 ⟨rfl, hb⟩
  have HT := Hd (HT.out.below hb)
  have HB := Hd (belowTo HB.out hb)
  clear hb l0 a0 b0 l1 a1 b1
  go_wp2_with fail
  refine (alive_true x2 HT.out).mono ?_
  rintro e x3 ⟨rfl, hb⟩
  have HF := Hd (belowTo HB.out hb)
  clear hb
  go_wp2_with fail
  go_ret
  exact ⟨rfl, HF.out⟩

theorem back_long (s : ByteArray) (x y : Int) (A B : Option Addr) (c d : Nat) (hx : Fit x) (hy : Fit y) (hs : s.size ≤ 1152921504606846975) (hl : true = decide (1048576 < s.size))  (w : World) (h : Raw w A c (natL x.natAbs)) (g : Raw w B d (natL y.natAbs)) (htab : powTab w) :
    Calls Tryd.prog 4 #[.agg #[.bool (decide (x < 0)), .slice A (natL x.natAbs).length c], .agg #[.bool (decide (y < 0)), .slice B (natL y.natAbs).length d], .string s] w fun e w' => e = .returned (.bool true) ∧ Below w.heap.size w w' := by
  obtain ⟨s2, q2⟩ : ∃ k : Nat, k = s.size := ⟨_, rfl⟩
  have C2 := fun (V : World) (g : Nat) (hg : V.heap.size = g) => beyond_made [s2] true 1 g 3 V hg rfl (by simp) (by simp; omega) (by rw [← q2] at hl; rw [show [s2].sum = s2 by simp]; exact hl)
  have H2 := Hd C2
  have HQ := Hd (show ((s.size : Nat) : Int) = (s2 : Int) by rw [q2])
  clear C2 hs hl q2
  have p0 := (Pair.new w 24 (.bool (decide (x < 0))) (.slice A (natL x.natAbs).length c)).alloc (.cells #[.bool (decide (y < 0)), .slice B (natL y.natAbs).length d] 24)
  have p1 := Pair.new (w.alloc (.cells #[.bool (decide (x < 0)), .slice A (natL x.natAbs).length c] 24)) 24 (.bool (decide (y < 0))) (.slice B (natL y.natAbs).length d)
  have b0 := (((Below.refl w.heap.size w).alloc (Nat.le_refl _) (.cells #[.bool (decide (x < 0)), .slice A (natL x.natAbs).length c] 24)).alloc (by simp) (.cells #[.bool (decide (y < 0)), .slice B (natL y.natAbs).length d] 24))
  simp only [World.size_alloc] at p1
  have V_x := Hd (NV.of h b0 p0)
  have V_y := Hd (NV.of g b0 p1)
  have F_x := Hd hx
  have F_y := Hd hy
  have HT := Hd (htab.below b0)
  have HBW := Hd b0
  clear h g htab p0 p1 b0 hx hy
  go_enter Tryd.func4, Tryd.ntmps4
  obtain ⟨W, E⟩ : ∃ W, W = ((w.alloc (.cells #[.bool (decide (x < 0)), .slice A (natL x.natAbs).length c] 24)).alloc (.cells #[.bool (decide (y < 0)), .slice B (natL y.natAbs).length d] 24)) := ⟨_, rfl⟩
  go_upto_region 1 with fail
  rw [← E] at V_x V_y HT HBW ⊢
  clear E
  go_wp2_with fail
  refine (alive_true W HT.out).mono ?_
  rintro e x1 ⟨rfl, hb⟩
  have V_x := Hd (V_x.out.below hb)
  have V_y := Hd (V_y.out.below hb)
  have HT := Hd (HT.out.below hb)
  have HBW := Hd (belowTo HBW.out hb)
  clear hb
  obtain ⟨l_x, a_x, b_x, -, -⟩ := V_x.out.pair.facts
  obtain ⟨l_y, a_y, b_y, -, -⟩ := V_y.out.pair.facts
  go_wp2_with fail
  refine (may2 x y A B c d x1 V_x.out.raw V_y.out.raw F_x.out F_y.out 24).mono ?_
  rintro e x2 ⟨rfl, hb⟩
  clear l_x a_x b_x l_y a_y b_y
  have V_x := Hd (V_x.out.below hb)
  have V_y := Hd (V_y.out.below hb)
  have HT := Hd (HT.out.below hb)
  have HBW := Hd (belowTo HBW.out hb)
  clear hb
  have hq := HQ.out
  go_wp2_with fail
  refine (H2.out x2 _ rfl).mono ?_
  rintro e xb ⟨rfl, hb⟩
  clear hq
  have V_x := Hd (V_x.out.below hb)
  have V_y := Hd (V_y.out.below hb)
  have HT := Hd (HT.out.below hb)
  have HBW := Hd (belowTo HBW.out hb)
  clear hb
  go_wp2_with fail
  refine (alive_true xb HT.out).mono ?_
  rintro e x9 ⟨rfl, hb⟩
  have HF := Hd (belowTo HBW.out hb)
  clear hb
  go_wp2_with fail
  go_ret
  exact ⟨rfl, HF.out⟩

theorem back_four_one (s : ByteArray) (x y : Int) (A B : Option Addr) (c d : Nat) (hx : Fit x) (hy : Fit y) (hs : s.size ≤ 1152921504606846975) (hl : false = decide (1048576 < s.size)) (hxy : x = y) (hv : prsV s.data.toList = 0) (he : prsE s.data.toList = 4) (w : World) (h : Raw w A c (natL x.natAbs)) (g : Raw w B d (natL y.natAbs)) (htab : powTab w) :
    Calls Tryd.prog 4 #[.agg #[.bool (decide (x < 0)), .slice A (natL x.natAbs).length c], .agg #[.bool (decide (y < 0)), .slice B (natL y.natAbs).length d], .string s] w fun e w' => e = .returned (.bool true) ∧ Below w.heap.size w w' := by
  obtain ⟨s2, q2⟩ : ∃ k : Nat, k = s.size := ⟨_, rfl⟩
  have C2 := fun (V : World) (g : Nat) (hg : V.heap.size = g) => beyond_made [s2] false 1 g 3 V hg rfl (by simp) (by simp; omega) (by rw [← q2] at hl; rw [show [s2].sum = s2 by simp]; exact hl)
  have H2 := Hd C2
  have HQ := Hd (show ((s.size : Nat) : Int) = (s2 : Int) by rw [q2])
  clear C2 hs hl q2
  obtain ⟨T, hT⟩ : ∃ T : ByteArray, T = ⟨(Lib.itoa x).toArray⟩ := ⟨_, rfl⟩
  obtain ⟨U, hU⟩ : ∃ T : ByteArray, T = ⟨(Lib.itoa y).toArray⟩ := ⟨_, rfl⟩
  have T1 := Hd (text_b x hx T hT)
  have T2 := Hd (text_b y hy U hU)
  have P1 := Hd (parse_told x hx T hT)
  have S1 := Hd (fun (V : World) (A B : Option Addr) (c d : Nat) (a : Raw V A c (natL x.natAbs)) (b : Raw V B d (natL x.natAbs)) => (show Calls Tryd.prog 16 #[.agg #[.bool (decide (x < 0)), .slice A (natL x.natAbs).length c], .agg #[.bool (decide (x < 0)), .slice B (natL x.natAbs).length d]] V fun e w' => e = .returned (.bool true) ∧ Below V.heap.size V w' by have h := same_b x x A B c d V a b; rw [decide_eq_true rfl] at h; exact h))
  have S2 := Hd (fun (V : World) (A B : Option Addr) (c d : Nat) (a : Raw V A c (natL x.natAbs)) (b : Raw V B d (natL y.natAbs)) => (show Calls Tryd.prog 16 #[.agg #[.bool (decide (x < 0)), .slice A (natL x.natAbs).length c], .agg #[.bool (decide (y < 0)), .slice B (natL y.natAbs).length d]] V fun e w' => e = .returned (.bool true) ∧ Below V.heap.size V w' by have h := same_b x y A B c d V a b; rw [decide_eq_true hxy] at h; exact h))
  have HTU := Hd (show U = T by rw [hT, hU, hxy])
  have P2 := whole_Parse s
  rw [he] at P2
  obtain ⟨z, hz⟩ : ∃ z : Int, z = prsV s.data.toList := ⟨_, rfl⟩
  rw [← hz] at P2 hv
  have S3 := Hd (fun (V : World) (A : Option Addr) (c : Nat) (a : Raw V A c (natL z.natAbs)) => same_none z A c V a hv)
  have HP2 := Hd P2
  clear P2 hT hU hz he hxy hv
  have p0 := (Pair.new w 24 (.bool (decide (x < 0))) (.slice A (natL x.natAbs).length c)).alloc (.cells #[.bool (decide (y < 0)), .slice B (natL y.natAbs).length d] 24)
  have p1 := Pair.new (w.alloc (.cells #[.bool (decide (x < 0)), .slice A (natL x.natAbs).length c] 24)) 24 (.bool (decide (y < 0))) (.slice B (natL y.natAbs).length d)
  have b0 := (((Below.refl w.heap.size w).alloc (Nat.le_refl _) (.cells #[.bool (decide (x < 0)), .slice A (natL x.natAbs).length c] 24)).alloc (by simp) (.cells #[.bool (decide (y < 0)), .slice B (natL y.natAbs).length d] 24))
  simp only [World.size_alloc] at p1
  have V_x := Hd (NV.of h b0 p0)
  have V_y := Hd (NV.of g b0 p1)
  have F_x := Hd hx
  have F_y := Hd hy
  have HT := Hd (htab.below b0)
  have HBW := Hd b0
  clear h g htab p0 p1 b0 hx hy
  go_enter Tryd.func4, Tryd.ntmps4
  obtain ⟨W, E⟩ : ∃ W, W = ((w.alloc (.cells #[.bool (decide (x < 0)), .slice A (natL x.natAbs).length c] 24)).alloc (.cells #[.bool (decide (y < 0)), .slice B (natL y.natAbs).length d] 24)) := ⟨_, rfl⟩
  go_upto_region 1 with fail
  rw [← E] at V_x V_y HT HBW ⊢
  clear E
  go_wp2_with fail
  refine (alive_true W HT.out).mono ?_
  rintro e x1 ⟨rfl, hb⟩
  have V_x := Hd (V_x.out.below hb)
  have V_y := Hd (V_y.out.below hb)
  have HT := Hd (HT.out.below hb)
  have HBW := Hd (belowTo HBW.out hb)
  clear hb
  obtain ⟨l_x, a_x, b_x, -, -⟩ := V_x.out.pair.facts
  obtain ⟨l_y, a_y, b_y, -, -⟩ := V_y.out.pair.facts
  go_wp2_with fail
  refine (may2 x y A B c d x1 V_x.out.raw V_y.out.raw F_x.out F_y.out 24).mono ?_
  rintro e x2 ⟨rfl, hb⟩
  clear l_x a_x b_x l_y a_y b_y
  have V_x := Hd (V_x.out.below hb)
  have V_y := Hd (V_y.out.below hb)
  have HT := Hd (HT.out.below hb)
  have HBW := Hd (belowTo HBW.out hb)
  clear hb
  have hq := HQ.out
  go_wp2_with fail
  refine (H2.out x2 _ rfl).mono ?_
  rintro e xb ⟨rfl, hb⟩
  clear hq
  have V_x := Hd (V_x.out.below hb)
  have V_y := Hd (V_y.out.below hb)
  have HT := Hd (HT.out.below hb)
  have HBW := Hd (belowTo HBW.out hb)
  clear hb
  obtain ⟨l_x, a_x, b_x, -, -⟩ := V_x.out.pair.facts
  go_wp2_with fail
  refine (T1.out A c xb V_x.out.raw HT.out).mono ?_
  rintro e x3 ⟨rfl, hb⟩
  clear l_x a_x b_x
  have V_x := Hd (V_x.out.below hb)
  have V_y := Hd (V_y.out.below hb)
  have HT := Hd (HT.out.below hb)
  have HBW := Hd (belowTo HBW.out hb)
  clear hb
  obtain ⟨l_y, a_y, b_y, -, -⟩ := V_y.out.pair.facts
  go_wp2_with fail
  refine (T2.out B d x3 V_y.out.raw HT.out).mono ?_
  rintro e x4 ⟨rfl, hb⟩
  clear l_y a_y b_y
  have V_x := Hd (V_x.out.below hb)
  have V_y := Hd (V_y.out.below hb)
  have HT := Hd (HT.out.below hb)
  have HBW := Hd (belowTo HBW.out hb)
  clear hb
  go_wp2_with fail
  refine (P1.out x4).mono ?_
  rintro e p1 ⟨va, rfl, hI, hb⟩
  obtain ⟨A5, c5, rfl, -⟩ := hI.value
  have V_x := Hd (V_x.out.below hb)
  have V_y := Hd (V_y.out.below hb)
  have HT := Hd (HT.out.below hb)
  have HBW := Hd (belowTo HBW.out hb)
  have R_b := Hd hI.rawAt
  clear hI hb
  go_upto_region 6 with fail
  have ha := ((Below.refl p1.heap.size p1).alloc (Nat.le_refl _) (.cells #[.bool (decide (x < 0)), .slice A5 (natL x.natAbs).length c5] 24))
  have p_b := (Pair.new p1 24 (.bool (decide (x < 0))) (.slice A5 (natL x.natAbs).length c5))
  obtain ⟨y5, E⟩ : ∃ W, W = (p1.alloc (.cells #[.bool (decide (x < 0)), .slice A5 (natL x.natAbs).length c5] 24)) := ⟨_, rfl⟩
  rw [← E] at ha p_b ⊢
  have V_b := Hd (NV.of R_b.out ha p_b)
  have V_x := Hd (V_x.out.below ha)
  have V_y := Hd (V_y.out.below ha)
  have HT := Hd (HT.out.below ha)
  have HBW := Hd (belowTo HBW.out ha)
  obtain ⟨g5, hg⟩ : ∃ g, g = p1.heap.size := ⟨_, rfl⟩
  rw [← hg] at V_b ⊢
  clear E ha hg p_b
  obtain rfl := HTU.out
  obtain ⟨l_b, a_b, b_b, -, -⟩ := V_b.out.pair.facts
  obtain ⟨l_x, a_x, b_x, -, -⟩ := V_x.out.pair.facts
  go_wp2_with fail
  refine (S1.out y5 _ _ _ _ V_b.out.raw V_x.out.raw).mono ?_
  rintro e x6 ⟨rfl, hb⟩
  clear l_b a_b b_b l_x a_x b_x
  have V_x := Hd (V_x.out.below hb)
  have V_y := Hd (V_y.out.below hb)
  have V_b := Hd (V_b.out.below hb)
  have HT := Hd (HT.out.below hb)
  have HBW := Hd (belowTo HBW.out hb)
  clear hb
  obtain ⟨l_x, a_x, b_x, -, -⟩ := V_x.out.pair.facts
  obtain ⟨l_y, a_y, b_y, -, -⟩ := V_y.out.pair.facts
  go_wp2_with fail
  refine (S2.out x6 _ _ _ _ V_x.out.raw V_y.out.raw).mono ?_
  rintro e x7 ⟨rfl, hb⟩
  clear l_x a_x b_x l_y a_y b_y
  have V_x := Hd (V_x.out.below hb)
  have V_y := Hd (V_y.out.below hb)
  have V_b := Hd (V_b.out.below hb)
  have HT := Hd (HT.out.below hb)
  have HBW := Hd (belowTo HBW.out hb)
  clear hb
  go_upto_region 8 with fail
  go_wp2_with fail
  refine (HP2.out x7).mono ?_
  rintro e p2 ⟨va, rfl, hI, hb⟩
  obtain ⟨A6, c6, rfl, -⟩ := hI.value
  have V_x := Hd (V_x.out.below hb)
  have V_y := Hd (V_y.out.below hb)
  have V_b := Hd (V_b.out.below hb)
  have HT := Hd (HT.out.below hb)
  have HBW := Hd (belowTo HBW.out hb)
  have R_z := Hd hI.rawAt
  clear hI hb
  go_upto_region 9 with fail
  have ha := ((Below.refl p2.heap.size p2).alloc (Nat.le_refl _) (.cells #[.bool (decide (z < 0)), .slice A6 (natL z.natAbs).length c6] 24))
  have p_z := (Pair.new p2 24 (.bool (decide (z < 0))) (.slice A6 (natL z.natAbs).length c6))
  obtain ⟨y8, E⟩ : ∃ W, W = (p2.alloc (.cells #[.bool (decide (z < 0)), .slice A6 (natL z.natAbs).length c6] 24)) := ⟨_, rfl⟩
  rw [← E] at ha p_z ⊢
  have V_z := Hd (NV.of R_z.out ha p_z)
  have V_x := Hd (V_x.out.below ha)
  have V_y := Hd (V_y.out.below ha)
  have V_b := Hd (V_b.out.below ha)
  have HT := Hd (HT.out.below ha)
  have HBW := Hd (belowTo HBW.out ha)
  obtain ⟨g8, hg⟩ : ∃ g, g = p2.heap.size := ⟨_, rfl⟩
  rw [← hg] at V_z ⊢
  clear E ha hg p_z
  obtain ⟨l_z, a_z, b_z, -, -⟩ := V_z.out.pair.facts
  go_wp2_with fail
  refine (S3.out y8 _ _ V_z.out.raw).mono ?_
  rintro e x9 ⟨rfl, hb⟩
  clear l_z a_z b_z
  have V_x := Hd (V_x.out.below hb)
  have V_y := Hd (V_y.out.below hb)
  have V_b := Hd (V_b.out.below hb)
  have V_z := Hd (V_z.out.below hb)
  have HT := Hd (HT.out.below hb)
  have HBW := Hd (belowTo HBW.out hb)
  clear hb
  go_wp2_with fail
  go_ret
  exact ⟨rfl, HBW.out⟩

theorem back_four_two (s : ByteArray) (x y : Int) (A B : Option Addr) (c d : Nat) (hx : Fit x) (hy : Fit y) (hs : s.size ≤ 1152921504606846975) (hl : false = decide (1048576 < s.size)) (hxy : x ≠ y) (hv : prsV s.data.toList = 0) (he : prsE s.data.toList = 4) (w : World) (h : Raw w A c (natL x.natAbs)) (g : Raw w B d (natL y.natAbs)) (htab : powTab w) :
    Calls Tryd.prog 4 #[.agg #[.bool (decide (x < 0)), .slice A (natL x.natAbs).length c], .agg #[.bool (decide (y < 0)), .slice B (natL y.natAbs).length d], .string s] w fun e w' => e = .returned (.bool true) ∧ Below w.heap.size w w' := by
  obtain ⟨s2, q2⟩ : ∃ k : Nat, k = s.size := ⟨_, rfl⟩
  have C2 := fun (V : World) (g : Nat) (hg : V.heap.size = g) => beyond_made [s2] false 1 g 3 V hg rfl (by simp) (by simp; omega) (by rw [← q2] at hl; rw [show [s2].sum = s2 by simp]; exact hl)
  have H2 := Hd C2
  have HQ := Hd (show ((s.size : Nat) : Int) = (s2 : Int) by rw [q2])
  clear C2 hs hl q2
  obtain ⟨T, hT⟩ : ∃ T : ByteArray, T = ⟨(Lib.itoa x).toArray⟩ := ⟨_, rfl⟩
  obtain ⟨U, hU⟩ : ∃ T : ByteArray, T = ⟨(Lib.itoa y).toArray⟩ := ⟨_, rfl⟩
  have T1 := Hd (text_b x hx T hT)
  have T2 := Hd (text_b y hy U hU)
  have P1 := Hd (parse_told x hx T hT)
  have S1 := Hd (fun (V : World) (A B : Option Addr) (c d : Nat) (a : Raw V A c (natL x.natAbs)) (b : Raw V B d (natL x.natAbs)) => (show Calls Tryd.prog 16 #[.agg #[.bool (decide (x < 0)), .slice A (natL x.natAbs).length c], .agg #[.bool (decide (x < 0)), .slice B (natL x.natAbs).length d]] V fun e w' => e = .returned (.bool true) ∧ Below V.heap.size V w' by have h := same_b x x A B c d V a b; rw [decide_eq_true rfl] at h; exact h))
  have S2 := Hd (fun (V : World) (A B : Option Addr) (c d : Nat) (a : Raw V A c (natL x.natAbs)) (b : Raw V B d (natL y.natAbs)) => (show Calls Tryd.prog 16 #[.agg #[.bool (decide (x < 0)), .slice A (natL x.natAbs).length c], .agg #[.bool (decide (y < 0)), .slice B (natL y.natAbs).length d]] V fun e w' => e = .returned (.bool false) ∧ Below V.heap.size V w' by have h := same_b x y A B c d V a b; rw [decide_eq_false hxy] at h; exact h))
  have htu0 : ¬ T.toList = U.toList := by
    rw [ByteArray.toList_eq, ByteArray.toList_eq, hT, hU]
    intro e
    exact hxy (itoa_inj.1 e)
  have HTU := Hd htu0
  have HTV := Hd (show (T.toList == U.toList) = false by rw [beq_eq_false_iff_ne]; exact htu0)
  clear htu0
  have P2 := whole_Parse s
  rw [he] at P2
  obtain ⟨z, hz⟩ : ∃ z : Int, z = prsV s.data.toList := ⟨_, rfl⟩
  rw [← hz] at P2 hv
  have S3 := Hd (fun (V : World) (A : Option Addr) (c : Nat) (a : Raw V A c (natL z.natAbs)) => same_none z A c V a hv)
  have HP2 := Hd P2
  clear P2 hT hU hz he hxy hv
  have p0 := (Pair.new w 24 (.bool (decide (x < 0))) (.slice A (natL x.natAbs).length c)).alloc (.cells #[.bool (decide (y < 0)), .slice B (natL y.natAbs).length d] 24)
  have p1 := Pair.new (w.alloc (.cells #[.bool (decide (x < 0)), .slice A (natL x.natAbs).length c] 24)) 24 (.bool (decide (y < 0))) (.slice B (natL y.natAbs).length d)
  have b0 := (((Below.refl w.heap.size w).alloc (Nat.le_refl _) (.cells #[.bool (decide (x < 0)), .slice A (natL x.natAbs).length c] 24)).alloc (by simp) (.cells #[.bool (decide (y < 0)), .slice B (natL y.natAbs).length d] 24))
  simp only [World.size_alloc] at p1
  have V_x := Hd (NV.of h b0 p0)
  have V_y := Hd (NV.of g b0 p1)
  have F_x := Hd hx
  have F_y := Hd hy
  have HT := Hd (htab.below b0)
  have HBW := Hd b0
  clear h g htab p0 p1 b0 hx hy
  go_enter Tryd.func4, Tryd.ntmps4
  obtain ⟨W, E⟩ : ∃ W, W = ((w.alloc (.cells #[.bool (decide (x < 0)), .slice A (natL x.natAbs).length c] 24)).alloc (.cells #[.bool (decide (y < 0)), .slice B (natL y.natAbs).length d] 24)) := ⟨_, rfl⟩
  go_upto_region 1 with fail
  rw [← E] at V_x V_y HT HBW ⊢
  clear E
  go_wp2_with fail
  refine (alive_true W HT.out).mono ?_
  rintro e x1 ⟨rfl, hb⟩
  have V_x := Hd (V_x.out.below hb)
  have V_y := Hd (V_y.out.below hb)
  have HT := Hd (HT.out.below hb)
  have HBW := Hd (belowTo HBW.out hb)
  clear hb
  obtain ⟨l_x, a_x, b_x, -, -⟩ := V_x.out.pair.facts
  obtain ⟨l_y, a_y, b_y, -, -⟩ := V_y.out.pair.facts
  go_wp2_with fail
  refine (may2 x y A B c d x1 V_x.out.raw V_y.out.raw F_x.out F_y.out 24).mono ?_
  rintro e x2 ⟨rfl, hb⟩
  clear l_x a_x b_x l_y a_y b_y
  have V_x := Hd (V_x.out.below hb)
  have V_y := Hd (V_y.out.below hb)
  have HT := Hd (HT.out.below hb)
  have HBW := Hd (belowTo HBW.out hb)
  clear hb
  have hq := HQ.out
  go_wp2_with fail
  refine (H2.out x2 _ rfl).mono ?_
  rintro e xb ⟨rfl, hb⟩
  clear hq
  have V_x := Hd (V_x.out.below hb)
  have V_y := Hd (V_y.out.below hb)
  have HT := Hd (HT.out.below hb)
  have HBW := Hd (belowTo HBW.out hb)
  clear hb
  obtain ⟨l_x, a_x, b_x, -, -⟩ := V_x.out.pair.facts
  go_wp2_with fail
  refine (T1.out A c xb V_x.out.raw HT.out).mono ?_
  rintro e x3 ⟨rfl, hb⟩
  clear l_x a_x b_x
  have V_x := Hd (V_x.out.below hb)
  have V_y := Hd (V_y.out.below hb)
  have HT := Hd (HT.out.below hb)
  have HBW := Hd (belowTo HBW.out hb)
  clear hb
  obtain ⟨l_y, a_y, b_y, -, -⟩ := V_y.out.pair.facts
  go_wp2_with fail
  refine (T2.out B d x3 V_y.out.raw HT.out).mono ?_
  rintro e x4 ⟨rfl, hb⟩
  clear l_y a_y b_y
  have V_x := Hd (V_x.out.below hb)
  have V_y := Hd (V_y.out.below hb)
  have HT := Hd (HT.out.below hb)
  have HBW := Hd (belowTo HBW.out hb)
  clear hb
  go_wp2_with fail
  refine (P1.out x4).mono ?_
  rintro e p1 ⟨va, rfl, hI, hb⟩
  obtain ⟨A5, c5, rfl, -⟩ := hI.value
  have V_x := Hd (V_x.out.below hb)
  have V_y := Hd (V_y.out.below hb)
  have HT := Hd (HT.out.below hb)
  have HBW := Hd (belowTo HBW.out hb)
  have R_b := Hd hI.rawAt
  clear hI hb
  go_upto_region 6 with fail
  have ha := ((Below.refl p1.heap.size p1).alloc (Nat.le_refl _) (.cells #[.bool (decide (x < 0)), .slice A5 (natL x.natAbs).length c5] 24))
  have p_b := (Pair.new p1 24 (.bool (decide (x < 0))) (.slice A5 (natL x.natAbs).length c5))
  obtain ⟨y5, E⟩ : ∃ W, W = (p1.alloc (.cells #[.bool (decide (x < 0)), .slice A5 (natL x.natAbs).length c5] 24)) := ⟨_, rfl⟩
  rw [← E] at ha p_b ⊢
  have V_b := Hd (NV.of R_b.out ha p_b)
  have V_x := Hd (V_x.out.below ha)
  have V_y := Hd (V_y.out.below ha)
  have HT := Hd (HT.out.below ha)
  have HBW := Hd (belowTo HBW.out ha)
  obtain ⟨g5, hg⟩ : ∃ g, g = p1.heap.size := ⟨_, rfl⟩
  rw [← hg] at V_b ⊢
  clear E ha hg p_b
  have htu := HTU.out
  have htv := HTV.out
  obtain ⟨l_b, a_b, b_b, -, -⟩ := V_b.out.pair.facts
  obtain ⟨l_x, a_x, b_x, -, -⟩ := V_x.out.pair.facts
  go_wp2_with fail
  refine (S1.out y5 _ _ _ _ V_b.out.raw V_x.out.raw).mono ?_
  rintro e x6 ⟨rfl, hb⟩
  clear l_b a_b b_b l_x a_x b_x
  have V_x := Hd (V_x.out.below hb)
  have V_y := Hd (V_y.out.below hb)
  have V_b := Hd (V_b.out.below hb)
  have HT := Hd (HT.out.below hb)
  have HBW := Hd (belowTo HBW.out hb)
  clear hb
  obtain ⟨l_x, a_x, b_x, -, -⟩ := V_x.out.pair.facts
  obtain ⟨l_y, a_y, b_y, -, -⟩ := V_y.out.pair.facts
  go_wp2_with fail
  refine (S2.out x6 _ _ _ _ V_x.out.raw V_y.out.raw).mono ?_
  rintro e x7 ⟨rfl, hb⟩
  clear l_x a_x b_x l_y a_y b_y
  have V_x := Hd (V_x.out.below hb)
  have V_y := Hd (V_y.out.below hb)
  have V_b := Hd (V_b.out.below hb)
  have HT := Hd (HT.out.below hb)
  have HBW := Hd (belowTo HBW.out hb)
  clear hb
  go_upto_region 8 with fail
  go_wp2_with fail
  refine (HP2.out x7).mono ?_
  rintro e p2 ⟨va, rfl, hI, hb⟩
  obtain ⟨A6, c6, rfl, -⟩ := hI.value
  have V_x := Hd (V_x.out.below hb)
  have V_y := Hd (V_y.out.below hb)
  have V_b := Hd (V_b.out.below hb)
  have HT := Hd (HT.out.below hb)
  have HBW := Hd (belowTo HBW.out hb)
  have R_z := Hd hI.rawAt
  clear hI hb
  go_upto_region 9 with fail
  have ha := ((Below.refl p2.heap.size p2).alloc (Nat.le_refl _) (.cells #[.bool (decide (z < 0)), .slice A6 (natL z.natAbs).length c6] 24))
  have p_z := (Pair.new p2 24 (.bool (decide (z < 0))) (.slice A6 (natL z.natAbs).length c6))
  obtain ⟨y8, E⟩ : ∃ W, W = (p2.alloc (.cells #[.bool (decide (z < 0)), .slice A6 (natL z.natAbs).length c6] 24)) := ⟨_, rfl⟩
  rw [← E] at ha p_z ⊢
  have V_z := Hd (NV.of R_z.out ha p_z)
  have V_x := Hd (V_x.out.below ha)
  have V_y := Hd (V_y.out.below ha)
  have V_b := Hd (V_b.out.below ha)
  have HT := Hd (HT.out.below ha)
  have HBW := Hd (belowTo HBW.out ha)
  obtain ⟨g8, hg⟩ : ∃ g, g = p2.heap.size := ⟨_, rfl⟩
  rw [← hg] at V_z ⊢
  clear E ha hg p_z
  obtain ⟨l_z, a_z, b_z, -, -⟩ := V_z.out.pair.facts
  go_wp2_with fail
  refine (S3.out y8 _ _ V_z.out.raw).mono ?_
  rintro e x9 ⟨rfl, hb⟩
  clear l_z a_z b_z
  have V_x := Hd (V_x.out.below hb)
  have V_y := Hd (V_y.out.below hb)
  have V_b := Hd (V_b.out.below hb)
  have V_z := Hd (V_z.out.below hb)
  have HT := Hd (HT.out.below hb)
  have HBW := Hd (belowTo HBW.out hb)
  clear hb
  go_wp2_with fail
  go_ret
  exact ⟨rfl, HBW.out⟩

theorem back_five_one (s : ByteArray) (x y : Int) (A B : Option Addr) (c d : Nat) (hx : Fit x) (hy : Fit y) (hs : s.size ≤ 1152921504606846975) (hl : false = decide (1048576 < s.size)) (hxy : x = y) (hv : prsV s.data.toList = 0) (he : prsE s.data.toList = 5) (w : World) (h : Raw w A c (natL x.natAbs)) (g : Raw w B d (natL y.natAbs)) (htab : powTab w) :
    Calls Tryd.prog 4 #[.agg #[.bool (decide (x < 0)), .slice A (natL x.natAbs).length c], .agg #[.bool (decide (y < 0)), .slice B (natL y.natAbs).length d], .string s] w fun e w' => e = .returned (.bool true) ∧ Below w.heap.size w w' := by
  obtain ⟨s2, q2⟩ : ∃ k : Nat, k = s.size := ⟨_, rfl⟩
  have C2 := fun (V : World) (g : Nat) (hg : V.heap.size = g) => beyond_made [s2] false 1 g 3 V hg rfl (by simp) (by simp; omega) (by rw [← q2] at hl; rw [show [s2].sum = s2 by simp]; exact hl)
  have H2 := Hd C2
  have HQ := Hd (show ((s.size : Nat) : Int) = (s2 : Int) by rw [q2])
  clear C2 hs hl q2
  obtain ⟨T, hT⟩ : ∃ T : ByteArray, T = ⟨(Lib.itoa x).toArray⟩ := ⟨_, rfl⟩
  obtain ⟨U, hU⟩ : ∃ T : ByteArray, T = ⟨(Lib.itoa y).toArray⟩ := ⟨_, rfl⟩
  have T1 := Hd (text_b x hx T hT)
  have T2 := Hd (text_b y hy U hU)
  have P1 := Hd (parse_told x hx T hT)
  have S1 := Hd (fun (V : World) (A B : Option Addr) (c d : Nat) (a : Raw V A c (natL x.natAbs)) (b : Raw V B d (natL x.natAbs)) => (show Calls Tryd.prog 16 #[.agg #[.bool (decide (x < 0)), .slice A (natL x.natAbs).length c], .agg #[.bool (decide (x < 0)), .slice B (natL x.natAbs).length d]] V fun e w' => e = .returned (.bool true) ∧ Below V.heap.size V w' by have h := same_b x x A B c d V a b; rw [decide_eq_true rfl] at h; exact h))
  have S2 := Hd (fun (V : World) (A B : Option Addr) (c d : Nat) (a : Raw V A c (natL x.natAbs)) (b : Raw V B d (natL y.natAbs)) => (show Calls Tryd.prog 16 #[.agg #[.bool (decide (x < 0)), .slice A (natL x.natAbs).length c], .agg #[.bool (decide (y < 0)), .slice B (natL y.natAbs).length d]] V fun e w' => e = .returned (.bool true) ∧ Below V.heap.size V w' by have h := same_b x y A B c d V a b; rw [decide_eq_true hxy] at h; exact h))
  have HTU := Hd (show U = T by rw [hT, hU, hxy])
  have P2 := whole_Parse s
  rw [he] at P2
  obtain ⟨z, hz⟩ : ∃ z : Int, z = prsV s.data.toList := ⟨_, rfl⟩
  rw [← hz] at P2 hv
  have S3 := Hd (fun (V : World) (A : Option Addr) (c : Nat) (a : Raw V A c (natL z.natAbs)) => same_none z A c V a hv)
  have HP2 := Hd P2
  clear P2 hT hU hz he hxy hv
  have p0 := (Pair.new w 24 (.bool (decide (x < 0))) (.slice A (natL x.natAbs).length c)).alloc (.cells #[.bool (decide (y < 0)), .slice B (natL y.natAbs).length d] 24)
  have p1 := Pair.new (w.alloc (.cells #[.bool (decide (x < 0)), .slice A (natL x.natAbs).length c] 24)) 24 (.bool (decide (y < 0))) (.slice B (natL y.natAbs).length d)
  have b0 := (((Below.refl w.heap.size w).alloc (Nat.le_refl _) (.cells #[.bool (decide (x < 0)), .slice A (natL x.natAbs).length c] 24)).alloc (by simp) (.cells #[.bool (decide (y < 0)), .slice B (natL y.natAbs).length d] 24))
  simp only [World.size_alloc] at p1
  have V_x := Hd (NV.of h b0 p0)
  have V_y := Hd (NV.of g b0 p1)
  have F_x := Hd hx
  have F_y := Hd hy
  have HT := Hd (htab.below b0)
  have HBW := Hd b0
  clear h g htab p0 p1 b0 hx hy
  go_enter Tryd.func4, Tryd.ntmps4
  obtain ⟨W, E⟩ : ∃ W, W = ((w.alloc (.cells #[.bool (decide (x < 0)), .slice A (natL x.natAbs).length c] 24)).alloc (.cells #[.bool (decide (y < 0)), .slice B (natL y.natAbs).length d] 24)) := ⟨_, rfl⟩
  go_upto_region 1 with fail
  rw [← E] at V_x V_y HT HBW ⊢
  clear E
  go_wp2_with fail
  refine (alive_true W HT.out).mono ?_
  rintro e x1 ⟨rfl, hb⟩
  have V_x := Hd (V_x.out.below hb)
  have V_y := Hd (V_y.out.below hb)
  have HT := Hd (HT.out.below hb)
  have HBW := Hd (belowTo HBW.out hb)
  clear hb
  obtain ⟨l_x, a_x, b_x, -, -⟩ := V_x.out.pair.facts
  obtain ⟨l_y, a_y, b_y, -, -⟩ := V_y.out.pair.facts
  go_wp2_with fail
  refine (may2 x y A B c d x1 V_x.out.raw V_y.out.raw F_x.out F_y.out 24).mono ?_
  rintro e x2 ⟨rfl, hb⟩
  clear l_x a_x b_x l_y a_y b_y
  have V_x := Hd (V_x.out.below hb)
  have V_y := Hd (V_y.out.below hb)
  have HT := Hd (HT.out.below hb)
  have HBW := Hd (belowTo HBW.out hb)
  clear hb
  have hq := HQ.out
  go_wp2_with fail
  refine (H2.out x2 _ rfl).mono ?_
  rintro e xb ⟨rfl, hb⟩
  clear hq
  have V_x := Hd (V_x.out.below hb)
  have V_y := Hd (V_y.out.below hb)
  have HT := Hd (HT.out.below hb)
  have HBW := Hd (belowTo HBW.out hb)
  clear hb
  obtain ⟨l_x, a_x, b_x, -, -⟩ := V_x.out.pair.facts
  go_wp2_with fail
  refine (T1.out A c xb V_x.out.raw HT.out).mono ?_
  rintro e x3 ⟨rfl, hb⟩
  clear l_x a_x b_x
  have V_x := Hd (V_x.out.below hb)
  have V_y := Hd (V_y.out.below hb)
  have HT := Hd (HT.out.below hb)
  have HBW := Hd (belowTo HBW.out hb)
  clear hb
  obtain ⟨l_y, a_y, b_y, -, -⟩ := V_y.out.pair.facts
  go_wp2_with fail
  refine (T2.out B d x3 V_y.out.raw HT.out).mono ?_
  rintro e x4 ⟨rfl, hb⟩
  clear l_y a_y b_y
  have V_x := Hd (V_x.out.below hb)
  have V_y := Hd (V_y.out.below hb)
  have HT := Hd (HT.out.below hb)
  have HBW := Hd (belowTo HBW.out hb)
  clear hb
  go_wp2_with fail
  refine (P1.out x4).mono ?_
  rintro e p1 ⟨va, rfl, hI, hb⟩
  obtain ⟨A5, c5, rfl, -⟩ := hI.value
  have V_x := Hd (V_x.out.below hb)
  have V_y := Hd (V_y.out.below hb)
  have HT := Hd (HT.out.below hb)
  have HBW := Hd (belowTo HBW.out hb)
  have R_b := Hd hI.rawAt
  clear hI hb
  go_upto_region 6 with fail
  have ha := ((Below.refl p1.heap.size p1).alloc (Nat.le_refl _) (.cells #[.bool (decide (x < 0)), .slice A5 (natL x.natAbs).length c5] 24))
  have p_b := (Pair.new p1 24 (.bool (decide (x < 0))) (.slice A5 (natL x.natAbs).length c5))
  obtain ⟨y5, E⟩ : ∃ W, W = (p1.alloc (.cells #[.bool (decide (x < 0)), .slice A5 (natL x.natAbs).length c5] 24)) := ⟨_, rfl⟩
  rw [← E] at ha p_b ⊢
  have V_b := Hd (NV.of R_b.out ha p_b)
  have V_x := Hd (V_x.out.below ha)
  have V_y := Hd (V_y.out.below ha)
  have HT := Hd (HT.out.below ha)
  have HBW := Hd (belowTo HBW.out ha)
  obtain ⟨g5, hg⟩ : ∃ g, g = p1.heap.size := ⟨_, rfl⟩
  rw [← hg] at V_b ⊢
  clear E ha hg p_b
  obtain rfl := HTU.out
  obtain ⟨l_b, a_b, b_b, -, -⟩ := V_b.out.pair.facts
  obtain ⟨l_x, a_x, b_x, -, -⟩ := V_x.out.pair.facts
  go_wp2_with fail
  refine (S1.out y5 _ _ _ _ V_b.out.raw V_x.out.raw).mono ?_
  rintro e x6 ⟨rfl, hb⟩
  clear l_b a_b b_b l_x a_x b_x
  have V_x := Hd (V_x.out.below hb)
  have V_y := Hd (V_y.out.below hb)
  have V_b := Hd (V_b.out.below hb)
  have HT := Hd (HT.out.below hb)
  have HBW := Hd (belowTo HBW.out hb)
  clear hb
  obtain ⟨l_x, a_x, b_x, -, -⟩ := V_x.out.pair.facts
  obtain ⟨l_y, a_y, b_y, -, -⟩ := V_y.out.pair.facts
  go_wp2_with fail
  refine (S2.out x6 _ _ _ _ V_x.out.raw V_y.out.raw).mono ?_
  rintro e x7 ⟨rfl, hb⟩
  clear l_x a_x b_x l_y a_y b_y
  have V_x := Hd (V_x.out.below hb)
  have V_y := Hd (V_y.out.below hb)
  have V_b := Hd (V_b.out.below hb)
  have HT := Hd (HT.out.below hb)
  have HBW := Hd (belowTo HBW.out hb)
  clear hb
  go_upto_region 8 with fail
  go_wp2_with fail
  refine (HP2.out x7).mono ?_
  rintro e p2 ⟨va, rfl, hI, hb⟩
  obtain ⟨A6, c6, rfl, -⟩ := hI.value
  have V_x := Hd (V_x.out.below hb)
  have V_y := Hd (V_y.out.below hb)
  have V_b := Hd (V_b.out.below hb)
  have HT := Hd (HT.out.below hb)
  have HBW := Hd (belowTo HBW.out hb)
  have R_z := Hd hI.rawAt
  clear hI hb
  go_upto_region 9 with fail
  have ha := ((Below.refl p2.heap.size p2).alloc (Nat.le_refl _) (.cells #[.bool (decide (z < 0)), .slice A6 (natL z.natAbs).length c6] 24))
  have p_z := (Pair.new p2 24 (.bool (decide (z < 0))) (.slice A6 (natL z.natAbs).length c6))
  obtain ⟨y8, E⟩ : ∃ W, W = (p2.alloc (.cells #[.bool (decide (z < 0)), .slice A6 (natL z.natAbs).length c6] 24)) := ⟨_, rfl⟩
  rw [← E] at ha p_z ⊢
  have V_z := Hd (NV.of R_z.out ha p_z)
  have V_x := Hd (V_x.out.below ha)
  have V_y := Hd (V_y.out.below ha)
  have V_b := Hd (V_b.out.below ha)
  have HT := Hd (HT.out.below ha)
  have HBW := Hd (belowTo HBW.out ha)
  obtain ⟨g8, hg⟩ : ∃ g, g = p2.heap.size := ⟨_, rfl⟩
  rw [← hg] at V_z ⊢
  clear E ha hg p_z
  obtain ⟨l_z, a_z, b_z, -, -⟩ := V_z.out.pair.facts
  go_wp2_with fail
  refine (S3.out y8 _ _ V_z.out.raw).mono ?_
  rintro e x9 ⟨rfl, hb⟩
  clear l_z a_z b_z
  have V_x := Hd (V_x.out.below hb)
  have V_y := Hd (V_y.out.below hb)
  have V_b := Hd (V_b.out.below hb)
  have V_z := Hd (V_z.out.below hb)
  have HT := Hd (HT.out.below hb)
  have HBW := Hd (belowTo HBW.out hb)
  clear hb
  go_wp2_with fail
  go_ret
  exact ⟨rfl, HBW.out⟩

theorem back_five_two (s : ByteArray) (x y : Int) (A B : Option Addr) (c d : Nat) (hx : Fit x) (hy : Fit y) (hs : s.size ≤ 1152921504606846975) (hl : false = decide (1048576 < s.size)) (hxy : x ≠ y) (hv : prsV s.data.toList = 0) (he : prsE s.data.toList = 5) (w : World) (h : Raw w A c (natL x.natAbs)) (g : Raw w B d (natL y.natAbs)) (htab : powTab w) :
    Calls Tryd.prog 4 #[.agg #[.bool (decide (x < 0)), .slice A (natL x.natAbs).length c], .agg #[.bool (decide (y < 0)), .slice B (natL y.natAbs).length d], .string s] w fun e w' => e = .returned (.bool true) ∧ Below w.heap.size w w' := by
  obtain ⟨s2, q2⟩ : ∃ k : Nat, k = s.size := ⟨_, rfl⟩
  have C2 := fun (V : World) (g : Nat) (hg : V.heap.size = g) => beyond_made [s2] false 1 g 3 V hg rfl (by simp) (by simp; omega) (by rw [← q2] at hl; rw [show [s2].sum = s2 by simp]; exact hl)
  have H2 := Hd C2
  have HQ := Hd (show ((s.size : Nat) : Int) = (s2 : Int) by rw [q2])
  clear C2 hs hl q2
  obtain ⟨T, hT⟩ : ∃ T : ByteArray, T = ⟨(Lib.itoa x).toArray⟩ := ⟨_, rfl⟩
  obtain ⟨U, hU⟩ : ∃ T : ByteArray, T = ⟨(Lib.itoa y).toArray⟩ := ⟨_, rfl⟩
  have T1 := Hd (text_b x hx T hT)
  have T2 := Hd (text_b y hy U hU)
  have P1 := Hd (parse_told x hx T hT)
  have S1 := Hd (fun (V : World) (A B : Option Addr) (c d : Nat) (a : Raw V A c (natL x.natAbs)) (b : Raw V B d (natL x.natAbs)) => (show Calls Tryd.prog 16 #[.agg #[.bool (decide (x < 0)), .slice A (natL x.natAbs).length c], .agg #[.bool (decide (x < 0)), .slice B (natL x.natAbs).length d]] V fun e w' => e = .returned (.bool true) ∧ Below V.heap.size V w' by have h := same_b x x A B c d V a b; rw [decide_eq_true rfl] at h; exact h))
  have S2 := Hd (fun (V : World) (A B : Option Addr) (c d : Nat) (a : Raw V A c (natL x.natAbs)) (b : Raw V B d (natL y.natAbs)) => (show Calls Tryd.prog 16 #[.agg #[.bool (decide (x < 0)), .slice A (natL x.natAbs).length c], .agg #[.bool (decide (y < 0)), .slice B (natL y.natAbs).length d]] V fun e w' => e = .returned (.bool false) ∧ Below V.heap.size V w' by have h := same_b x y A B c d V a b; rw [decide_eq_false hxy] at h; exact h))
  have htu0 : ¬ T.toList = U.toList := by
    rw [ByteArray.toList_eq, ByteArray.toList_eq, hT, hU]
    intro e
    exact hxy (itoa_inj.1 e)
  have HTU := Hd htu0
  have HTV := Hd (show (T.toList == U.toList) = false by rw [beq_eq_false_iff_ne]; exact htu0)
  clear htu0
  have P2 := whole_Parse s
  rw [he] at P2
  obtain ⟨z, hz⟩ : ∃ z : Int, z = prsV s.data.toList := ⟨_, rfl⟩
  rw [← hz] at P2 hv
  have S3 := Hd (fun (V : World) (A : Option Addr) (c : Nat) (a : Raw V A c (natL z.natAbs)) => same_none z A c V a hv)
  have HP2 := Hd P2
  clear P2 hT hU hz he hxy hv
  have p0 := (Pair.new w 24 (.bool (decide (x < 0))) (.slice A (natL x.natAbs).length c)).alloc (.cells #[.bool (decide (y < 0)), .slice B (natL y.natAbs).length d] 24)
  have p1 := Pair.new (w.alloc (.cells #[.bool (decide (x < 0)), .slice A (natL x.natAbs).length c] 24)) 24 (.bool (decide (y < 0))) (.slice B (natL y.natAbs).length d)
  have b0 := (((Below.refl w.heap.size w).alloc (Nat.le_refl _) (.cells #[.bool (decide (x < 0)), .slice A (natL x.natAbs).length c] 24)).alloc (by simp) (.cells #[.bool (decide (y < 0)), .slice B (natL y.natAbs).length d] 24))
  simp only [World.size_alloc] at p1
  have V_x := Hd (NV.of h b0 p0)
  have V_y := Hd (NV.of g b0 p1)
  have F_x := Hd hx
  have F_y := Hd hy
  have HT := Hd (htab.below b0)
  have HBW := Hd b0
  clear h g htab p0 p1 b0 hx hy
  go_enter Tryd.func4, Tryd.ntmps4
  obtain ⟨W, E⟩ : ∃ W, W = ((w.alloc (.cells #[.bool (decide (x < 0)), .slice A (natL x.natAbs).length c] 24)).alloc (.cells #[.bool (decide (y < 0)), .slice B (natL y.natAbs).length d] 24)) := ⟨_, rfl⟩
  go_upto_region 1 with fail
  rw [← E] at V_x V_y HT HBW ⊢
  clear E
  go_wp2_with fail
  refine (alive_true W HT.out).mono ?_
  rintro e x1 ⟨rfl, hb⟩
  have V_x := Hd (V_x.out.below hb)
  have V_y := Hd (V_y.out.below hb)
  have HT := Hd (HT.out.below hb)
  have HBW := Hd (belowTo HBW.out hb)
  clear hb
  obtain ⟨l_x, a_x, b_x, -, -⟩ := V_x.out.pair.facts
  obtain ⟨l_y, a_y, b_y, -, -⟩ := V_y.out.pair.facts
  go_wp2_with fail
  refine (may2 x y A B c d x1 V_x.out.raw V_y.out.raw F_x.out F_y.out 24).mono ?_
  rintro e x2 ⟨rfl, hb⟩
  clear l_x a_x b_x l_y a_y b_y
  have V_x := Hd (V_x.out.below hb)
  have V_y := Hd (V_y.out.below hb)
  have HT := Hd (HT.out.below hb)
  have HBW := Hd (belowTo HBW.out hb)
  clear hb
  have hq := HQ.out
  go_wp2_with fail
  refine (H2.out x2 _ rfl).mono ?_
  rintro e xb ⟨rfl, hb⟩
  clear hq
  have V_x := Hd (V_x.out.below hb)
  have V_y := Hd (V_y.out.below hb)
  have HT := Hd (HT.out.below hb)
  have HBW := Hd (belowTo HBW.out hb)
  clear hb
  obtain ⟨l_x, a_x, b_x, -, -⟩ := V_x.out.pair.facts
  go_wp2_with fail
  refine (T1.out A c xb V_x.out.raw HT.out).mono ?_
  rintro e x3 ⟨rfl, hb⟩
  clear l_x a_x b_x
  have V_x := Hd (V_x.out.below hb)
  have V_y := Hd (V_y.out.below hb)
  have HT := Hd (HT.out.below hb)
  have HBW := Hd (belowTo HBW.out hb)
  clear hb
  obtain ⟨l_y, a_y, b_y, -, -⟩ := V_y.out.pair.facts
  go_wp2_with fail
  refine (T2.out B d x3 V_y.out.raw HT.out).mono ?_
  rintro e x4 ⟨rfl, hb⟩
  clear l_y a_y b_y
  have V_x := Hd (V_x.out.below hb)
  have V_y := Hd (V_y.out.below hb)
  have HT := Hd (HT.out.below hb)
  have HBW := Hd (belowTo HBW.out hb)
  clear hb
  go_wp2_with fail
  refine (P1.out x4).mono ?_
  rintro e p1 ⟨va, rfl, hI, hb⟩
  obtain ⟨A5, c5, rfl, -⟩ := hI.value
  have V_x := Hd (V_x.out.below hb)
  have V_y := Hd (V_y.out.below hb)
  have HT := Hd (HT.out.below hb)
  have HBW := Hd (belowTo HBW.out hb)
  have R_b := Hd hI.rawAt
  clear hI hb
  go_upto_region 6 with fail
  have ha := ((Below.refl p1.heap.size p1).alloc (Nat.le_refl _) (.cells #[.bool (decide (x < 0)), .slice A5 (natL x.natAbs).length c5] 24))
  have p_b := (Pair.new p1 24 (.bool (decide (x < 0))) (.slice A5 (natL x.natAbs).length c5))
  obtain ⟨y5, E⟩ : ∃ W, W = (p1.alloc (.cells #[.bool (decide (x < 0)), .slice A5 (natL x.natAbs).length c5] 24)) := ⟨_, rfl⟩
  rw [← E] at ha p_b ⊢
  have V_b := Hd (NV.of R_b.out ha p_b)
  have V_x := Hd (V_x.out.below ha)
  have V_y := Hd (V_y.out.below ha)
  have HT := Hd (HT.out.below ha)
  have HBW := Hd (belowTo HBW.out ha)
  obtain ⟨g5, hg⟩ : ∃ g, g = p1.heap.size := ⟨_, rfl⟩
  rw [← hg] at V_b ⊢
  clear E ha hg p_b
  have htu := HTU.out
  have htv := HTV.out
  obtain ⟨l_b, a_b, b_b, -, -⟩ := V_b.out.pair.facts
  obtain ⟨l_x, a_x, b_x, -, -⟩ := V_x.out.pair.facts
  go_wp2_with fail
  refine (S1.out y5 _ _ _ _ V_b.out.raw V_x.out.raw).mono ?_
  rintro e x6 ⟨rfl, hb⟩
  clear l_b a_b b_b l_x a_x b_x
  have V_x := Hd (V_x.out.below hb)
  have V_y := Hd (V_y.out.below hb)
  have V_b := Hd (V_b.out.below hb)
  have HT := Hd (HT.out.below hb)
  have HBW := Hd (belowTo HBW.out hb)
  clear hb
  obtain ⟨l_x, a_x, b_x, -, -⟩ := V_x.out.pair.facts
  obtain ⟨l_y, a_y, b_y, -, -⟩ := V_y.out.pair.facts
  go_wp2_with fail
  refine (S2.out x6 _ _ _ _ V_x.out.raw V_y.out.raw).mono ?_
  rintro e x7 ⟨rfl, hb⟩
  clear l_x a_x b_x l_y a_y b_y
  have V_x := Hd (V_x.out.below hb)
  have V_y := Hd (V_y.out.below hb)
  have V_b := Hd (V_b.out.below hb)
  have HT := Hd (HT.out.below hb)
  have HBW := Hd (belowTo HBW.out hb)
  clear hb
  go_upto_region 8 with fail
  go_wp2_with fail
  refine (HP2.out x7).mono ?_
  rintro e p2 ⟨va, rfl, hI, hb⟩
  obtain ⟨A6, c6, rfl, -⟩ := hI.value
  have V_x := Hd (V_x.out.below hb)
  have V_y := Hd (V_y.out.below hb)
  have V_b := Hd (V_b.out.below hb)
  have HT := Hd (HT.out.below hb)
  have HBW := Hd (belowTo HBW.out hb)
  have R_z := Hd hI.rawAt
  clear hI hb
  go_upto_region 9 with fail
  have ha := ((Below.refl p2.heap.size p2).alloc (Nat.le_refl _) (.cells #[.bool (decide (z < 0)), .slice A6 (natL z.natAbs).length c6] 24))
  have p_z := (Pair.new p2 24 (.bool (decide (z < 0))) (.slice A6 (natL z.natAbs).length c6))
  obtain ⟨y8, E⟩ : ∃ W, W = (p2.alloc (.cells #[.bool (decide (z < 0)), .slice A6 (natL z.natAbs).length c6] 24)) := ⟨_, rfl⟩
  rw [← E] at ha p_z ⊢
  have V_z := Hd (NV.of R_z.out ha p_z)
  have V_x := Hd (V_x.out.below ha)
  have V_y := Hd (V_y.out.below ha)
  have V_b := Hd (V_b.out.below ha)
  have HT := Hd (HT.out.below ha)
  have HBW := Hd (belowTo HBW.out ha)
  obtain ⟨g8, hg⟩ : ∃ g, g = p2.heap.size := ⟨_, rfl⟩
  rw [← hg] at V_z ⊢
  clear E ha hg p_z
  obtain ⟨l_z, a_z, b_z, -, -⟩ := V_z.out.pair.facts
  go_wp2_with fail
  refine (S3.out y8 _ _ V_z.out.raw).mono ?_
  rintro e x9 ⟨rfl, hb⟩
  clear l_z a_z b_z
  have V_x := Hd (V_x.out.below hb)
  have V_y := Hd (V_y.out.below hb)
  have V_b := Hd (V_b.out.below hb)
  have V_z := Hd (V_z.out.below hb)
  have HT := Hd (HT.out.below hb)
  have HBW := Hd (belowTo HBW.out hb)
  clear hb
  go_wp2_with fail
  go_ret
  exact ⟨rfl, HBW.out⟩

theorem back_read_one (s : ByteArray) (x y : Int) (A B : Option Addr) (c d : Nat) (hx : Fit x) (hy : Fit y) (hs : s.size ≤ 1152921504606846975) (hl : false = decide (1048576 < s.size)) (hxy : x = y) (he : prsE s.data.toList = 0) (hv : Fit (prsV s.data.toList)) (hw : (⟨(Lib.itoa (prsV s.data.toList)).toArray⟩ : ByteArray) = s) (w : World) (h : Raw w A c (natL x.natAbs)) (g : Raw w B d (natL y.natAbs)) (htab : powTab w) :
    Calls Tryd.prog 4 #[.agg #[.bool (decide (x < 0)), .slice A (natL x.natAbs).length c], .agg #[.bool (decide (y < 0)), .slice B (natL y.natAbs).length d], .string s] w fun e w' => e = .returned (.bool true) ∧ Below w.heap.size w w' := by
  obtain ⟨s2, q2⟩ : ∃ k : Nat, k = s.size := ⟨_, rfl⟩
  have C2 := fun (V : World) (g : Nat) (hg : V.heap.size = g) => beyond_made [s2] false 1 g 3 V hg rfl (by simp) (by simp; omega) (by rw [← q2] at hl; rw [show [s2].sum = s2 by simp]; exact hl)
  have H2 := Hd C2
  have HQ := Hd (show ((s.size : Nat) : Int) = (s2 : Int) by rw [q2])
  clear C2 hs hl q2
  obtain ⟨T, hT⟩ : ∃ T : ByteArray, T = ⟨(Lib.itoa x).toArray⟩ := ⟨_, rfl⟩
  obtain ⟨U, hU⟩ : ∃ T : ByteArray, T = ⟨(Lib.itoa y).toArray⟩ := ⟨_, rfl⟩
  have T1 := Hd (text_b x hx T hT)
  have T2 := Hd (text_b y hy U hU)
  have P1 := Hd (parse_told x hx T hT)
  have S1 := Hd (fun (V : World) (A B : Option Addr) (c d : Nat) (a : Raw V A c (natL x.natAbs)) (b : Raw V B d (natL x.natAbs)) => (show Calls Tryd.prog 16 #[.agg #[.bool (decide (x < 0)), .slice A (natL x.natAbs).length c], .agg #[.bool (decide (x < 0)), .slice B (natL x.natAbs).length d]] V fun e w' => e = .returned (.bool true) ∧ Below V.heap.size V w' by have h := same_b x x A B c d V a b; rw [decide_eq_true rfl] at h; exact h))
  have S2 := Hd (fun (V : World) (A B : Option Addr) (c d : Nat) (a : Raw V A c (natL x.natAbs)) (b : Raw V B d (natL y.natAbs)) => (show Calls Tryd.prog 16 #[.agg #[.bool (decide (x < 0)), .slice A (natL x.natAbs).length c], .agg #[.bool (decide (y < 0)), .slice B (natL y.natAbs).length d]] V fun e w' => e = .returned (.bool true) ∧ Below V.heap.size V w' by have h := same_b x y A B c d V a b; rw [decide_eq_true hxy] at h; exact h))
  have HTU := Hd (show U = T by rw [hT, hU, hxy])
  have P2 := whole_Parse s
  rw [he] at P2
  obtain ⟨z, hz⟩ : ∃ z : Int, z = prsV s.data.toList := ⟨_, rfl⟩
  rw [← hz] at P2 hv hw
  have FZ := Hd hv
  have T3 := Hd (text_b z hv s hw.symm)
  have HP2 := Hd P2
  clear P2 hT hU hz he hxy hv hw
  have p0 := (Pair.new w 24 (.bool (decide (x < 0))) (.slice A (natL x.natAbs).length c)).alloc (.cells #[.bool (decide (y < 0)), .slice B (natL y.natAbs).length d] 24)
  have p1 := Pair.new (w.alloc (.cells #[.bool (decide (x < 0)), .slice A (natL x.natAbs).length c] 24)) 24 (.bool (decide (y < 0))) (.slice B (natL y.natAbs).length d)
  have b0 := (((Below.refl w.heap.size w).alloc (Nat.le_refl _) (.cells #[.bool (decide (x < 0)), .slice A (natL x.natAbs).length c] 24)).alloc (by simp) (.cells #[.bool (decide (y < 0)), .slice B (natL y.natAbs).length d] 24))
  simp only [World.size_alloc] at p1
  have V_x := Hd (NV.of h b0 p0)
  have V_y := Hd (NV.of g b0 p1)
  have F_x := Hd hx
  have F_y := Hd hy
  have HT := Hd (htab.below b0)
  have HBW := Hd b0
  clear h g htab p0 p1 b0 hx hy
  go_enter Tryd.func4, Tryd.ntmps4
  obtain ⟨W, E⟩ : ∃ W, W = ((w.alloc (.cells #[.bool (decide (x < 0)), .slice A (natL x.natAbs).length c] 24)).alloc (.cells #[.bool (decide (y < 0)), .slice B (natL y.natAbs).length d] 24)) := ⟨_, rfl⟩
  go_upto_region 1 with fail
  rw [← E] at V_x V_y HT HBW ⊢
  clear E
  go_wp2_with fail
  refine (alive_true W HT.out).mono ?_
  rintro e x1 ⟨rfl, hb⟩
  have V_x := Hd (V_x.out.below hb)
  have V_y := Hd (V_y.out.below hb)
  have HT := Hd (HT.out.below hb)
  have HBW := Hd (belowTo HBW.out hb)
  clear hb
  obtain ⟨l_x, a_x, b_x, -, -⟩ := V_x.out.pair.facts
  obtain ⟨l_y, a_y, b_y, -, -⟩ := V_y.out.pair.facts
  go_wp2_with fail
  refine (may2 x y A B c d x1 V_x.out.raw V_y.out.raw F_x.out F_y.out 24).mono ?_
  rintro e x2 ⟨rfl, hb⟩
  clear l_x a_x b_x l_y a_y b_y
  have V_x := Hd (V_x.out.below hb)
  have V_y := Hd (V_y.out.below hb)
  have HT := Hd (HT.out.below hb)
  have HBW := Hd (belowTo HBW.out hb)
  clear hb
  have hq := HQ.out
  go_wp2_with fail
  refine (H2.out x2 _ rfl).mono ?_
  rintro e xb ⟨rfl, hb⟩
  clear hq
  have V_x := Hd (V_x.out.below hb)
  have V_y := Hd (V_y.out.below hb)
  have HT := Hd (HT.out.below hb)
  have HBW := Hd (belowTo HBW.out hb)
  clear hb
  obtain ⟨l_x, a_x, b_x, -, -⟩ := V_x.out.pair.facts
  go_wp2_with fail
  refine (T1.out A c xb V_x.out.raw HT.out).mono ?_
  rintro e x3 ⟨rfl, hb⟩
  clear l_x a_x b_x
  have V_x := Hd (V_x.out.below hb)
  have V_y := Hd (V_y.out.below hb)
  have HT := Hd (HT.out.below hb)
  have HBW := Hd (belowTo HBW.out hb)
  clear hb
  obtain ⟨l_y, a_y, b_y, -, -⟩ := V_y.out.pair.facts
  go_wp2_with fail
  refine (T2.out B d x3 V_y.out.raw HT.out).mono ?_
  rintro e x4 ⟨rfl, hb⟩
  clear l_y a_y b_y
  have V_x := Hd (V_x.out.below hb)
  have V_y := Hd (V_y.out.below hb)
  have HT := Hd (HT.out.below hb)
  have HBW := Hd (belowTo HBW.out hb)
  clear hb
  go_wp2_with fail
  refine (P1.out x4).mono ?_
  rintro e p1 ⟨va, rfl, hI, hb⟩
  obtain ⟨A5, c5, rfl, -⟩ := hI.value
  have V_x := Hd (V_x.out.below hb)
  have V_y := Hd (V_y.out.below hb)
  have HT := Hd (HT.out.below hb)
  have HBW := Hd (belowTo HBW.out hb)
  have R_b := Hd hI.rawAt
  clear hI hb
  go_upto_region 6 with fail
  have ha := ((Below.refl p1.heap.size p1).alloc (Nat.le_refl _) (.cells #[.bool (decide (x < 0)), .slice A5 (natL x.natAbs).length c5] 24))
  have p_b := (Pair.new p1 24 (.bool (decide (x < 0))) (.slice A5 (natL x.natAbs).length c5))
  obtain ⟨y5, E⟩ : ∃ W, W = (p1.alloc (.cells #[.bool (decide (x < 0)), .slice A5 (natL x.natAbs).length c5] 24)) := ⟨_, rfl⟩
  rw [← E] at ha p_b ⊢
  have V_b := Hd (NV.of R_b.out ha p_b)
  have V_x := Hd (V_x.out.below ha)
  have V_y := Hd (V_y.out.below ha)
  have HT := Hd (HT.out.below ha)
  have HBW := Hd (belowTo HBW.out ha)
  obtain ⟨g5, hg⟩ : ∃ g, g = p1.heap.size := ⟨_, rfl⟩
  rw [← hg] at V_b ⊢
  clear E ha hg p_b
  obtain rfl := HTU.out
  obtain ⟨l_b, a_b, b_b, -, -⟩ := V_b.out.pair.facts
  obtain ⟨l_x, a_x, b_x, -, -⟩ := V_x.out.pair.facts
  go_wp2_with fail
  refine (S1.out y5 _ _ _ _ V_b.out.raw V_x.out.raw).mono ?_
  rintro e x6 ⟨rfl, hb⟩
  clear l_b a_b b_b l_x a_x b_x
  have V_x := Hd (V_x.out.below hb)
  have V_y := Hd (V_y.out.below hb)
  have V_b := Hd (V_b.out.below hb)
  have HT := Hd (HT.out.below hb)
  have HBW := Hd (belowTo HBW.out hb)
  clear hb
  obtain ⟨l_x, a_x, b_x, -, -⟩ := V_x.out.pair.facts
  obtain ⟨l_y, a_y, b_y, -, -⟩ := V_y.out.pair.facts
  go_wp2_with fail
  refine (S2.out x6 _ _ _ _ V_x.out.raw V_y.out.raw).mono ?_
  rintro e x7 ⟨rfl, hb⟩
  clear l_x a_x b_x l_y a_y b_y
  have V_x := Hd (V_x.out.below hb)
  have V_y := Hd (V_y.out.below hb)
  have V_b := Hd (V_b.out.below hb)
  have HT := Hd (HT.out.below hb)
  have HBW := Hd (belowTo HBW.out hb)
  clear hb
  go_upto_region 8 with fail
  go_wp2_with fail
  refine (HP2.out x7).mono ?_
  rintro e p2 ⟨va, rfl, hI, hb⟩
  obtain ⟨A6, c6, rfl, -⟩ := hI.value
  have V_x := Hd (V_x.out.below hb)
  have V_y := Hd (V_y.out.below hb)
  have V_b := Hd (V_b.out.below hb)
  have HT := Hd (HT.out.below hb)
  have HBW := Hd (belowTo HBW.out hb)
  have R_z := Hd hI.rawAt
  clear hI hb
  go_upto_region 9 with fail
  have ha := ((Below.refl p2.heap.size p2).alloc (Nat.le_refl _) (.cells #[.bool (decide (z < 0)), .slice A6 (natL z.natAbs).length c6] 24))
  have p_z := (Pair.new p2 24 (.bool (decide (z < 0))) (.slice A6 (natL z.natAbs).length c6))
  obtain ⟨y8, E⟩ : ∃ W, W = (p2.alloc (.cells #[.bool (decide (z < 0)), .slice A6 (natL z.natAbs).length c6] 24)) := ⟨_, rfl⟩
  rw [← E] at ha p_z ⊢
  have V_z := Hd (NV.of R_z.out ha p_z)
  have V_x := Hd (V_x.out.below ha)
  have V_y := Hd (V_y.out.below ha)
  have V_b := Hd (V_b.out.below ha)
  have HT := Hd (HT.out.below ha)
  have HBW := Hd (belowTo HBW.out ha)
  obtain ⟨g8, hg⟩ : ∃ g, g = p2.heap.size := ⟨_, rfl⟩
  rw [← hg] at V_z ⊢
  clear E ha hg p_z
  obtain ⟨l_z, a_z, b_z, -, -⟩ := V_z.out.pair.facts
  go_wp2_with fail
  refine (T3.out _ _ y8 V_z.out.raw HT.out).mono ?_
  rintro e x9 ⟨rfl, hb⟩
  clear l_z a_z b_z
  have V_x := Hd (V_x.out.below hb)
  have V_y := Hd (V_y.out.below hb)
  have V_b := Hd (V_b.out.below hb)
  have V_z := Hd (V_z.out.below hb)
  have HT := Hd (HT.out.below hb)
  have HBW := Hd (belowTo HBW.out hb)
  clear hb
  obtain ⟨l_z, a_z, b_z, -, -⟩ := V_z.out.pair.facts
  go_wp2_with fail
  refine (may1 z A6 c6 x9 V_z.out.raw 24 true (decide_eq_true FZ.out).symm).mono ?_
  rintro e x10 ⟨rfl, hb⟩
  clear l_z a_z b_z
  have V_x := Hd (V_x.out.below hb)
  have V_y := Hd (V_y.out.below hb)
  have V_b := Hd (V_b.out.below hb)
  have V_z := Hd (V_z.out.below hb)
  have HT := Hd (HT.out.below hb)
  have HBW := Hd (belowTo HBW.out hb)
  clear hb
  go_wp2_with fail
  go_ret
  exact ⟨rfl, HBW.out⟩

theorem back_read_two (s : ByteArray) (x y : Int) (A B : Option Addr) (c d : Nat) (hx : Fit x) (hy : Fit y) (hs : s.size ≤ 1152921504606846975) (hl : false = decide (1048576 < s.size)) (hxy : x ≠ y) (he : prsE s.data.toList = 0) (hv : Fit (prsV s.data.toList)) (hw : (⟨(Lib.itoa (prsV s.data.toList)).toArray⟩ : ByteArray) = s) (w : World) (h : Raw w A c (natL x.natAbs)) (g : Raw w B d (natL y.natAbs)) (htab : powTab w) :
    Calls Tryd.prog 4 #[.agg #[.bool (decide (x < 0)), .slice A (natL x.natAbs).length c], .agg #[.bool (decide (y < 0)), .slice B (natL y.natAbs).length d], .string s] w fun e w' => e = .returned (.bool true) ∧ Below w.heap.size w w' := by
  obtain ⟨s2, q2⟩ : ∃ k : Nat, k = s.size := ⟨_, rfl⟩
  have C2 := fun (V : World) (g : Nat) (hg : V.heap.size = g) => beyond_made [s2] false 1 g 3 V hg rfl (by simp) (by simp; omega) (by rw [← q2] at hl; rw [show [s2].sum = s2 by simp]; exact hl)
  have H2 := Hd C2
  have HQ := Hd (show ((s.size : Nat) : Int) = (s2 : Int) by rw [q2])
  clear C2 hs hl q2
  obtain ⟨T, hT⟩ : ∃ T : ByteArray, T = ⟨(Lib.itoa x).toArray⟩ := ⟨_, rfl⟩
  obtain ⟨U, hU⟩ : ∃ T : ByteArray, T = ⟨(Lib.itoa y).toArray⟩ := ⟨_, rfl⟩
  have T1 := Hd (text_b x hx T hT)
  have T2 := Hd (text_b y hy U hU)
  have P1 := Hd (parse_told x hx T hT)
  have S1 := Hd (fun (V : World) (A B : Option Addr) (c d : Nat) (a : Raw V A c (natL x.natAbs)) (b : Raw V B d (natL x.natAbs)) => (show Calls Tryd.prog 16 #[.agg #[.bool (decide (x < 0)), .slice A (natL x.natAbs).length c], .agg #[.bool (decide (x < 0)), .slice B (natL x.natAbs).length d]] V fun e w' => e = .returned (.bool true) ∧ Below V.heap.size V w' by have h := same_b x x A B c d V a b; rw [decide_eq_true rfl] at h; exact h))
  have S2 := Hd (fun (V : World) (A B : Option Addr) (c d : Nat) (a : Raw V A c (natL x.natAbs)) (b : Raw V B d (natL y.natAbs)) => (show Calls Tryd.prog 16 #[.agg #[.bool (decide (x < 0)), .slice A (natL x.natAbs).length c], .agg #[.bool (decide (y < 0)), .slice B (natL y.natAbs).length d]] V fun e w' => e = .returned (.bool false) ∧ Below V.heap.size V w' by have h := same_b x y A B c d V a b; rw [decide_eq_false hxy] at h; exact h))
  have htu0 : ¬ T.toList = U.toList := by
    rw [ByteArray.toList_eq, ByteArray.toList_eq, hT, hU]
    intro e
    exact hxy (itoa_inj.1 e)
  have HTU := Hd htu0
  have HTV := Hd (show (T.toList == U.toList) = false by rw [beq_eq_false_iff_ne]; exact htu0)
  clear htu0
  have P2 := whole_Parse s
  rw [he] at P2
  obtain ⟨z, hz⟩ : ∃ z : Int, z = prsV s.data.toList := ⟨_, rfl⟩
  rw [← hz] at P2 hv hw
  have FZ := Hd hv
  have T3 := Hd (text_b z hv s hw.symm)
  have HP2 := Hd P2
  clear P2 hT hU hz he hxy hv hw
  have p0 := (Pair.new w 24 (.bool (decide (x < 0))) (.slice A (natL x.natAbs).length c)).alloc (.cells #[.bool (decide (y < 0)), .slice B (natL y.natAbs).length d] 24)
  have p1 := Pair.new (w.alloc (.cells #[.bool (decide (x < 0)), .slice A (natL x.natAbs).length c] 24)) 24 (.bool (decide (y < 0))) (.slice B (natL y.natAbs).length d)
  have b0 := (((Below.refl w.heap.size w).alloc (Nat.le_refl _) (.cells #[.bool (decide (x < 0)), .slice A (natL x.natAbs).length c] 24)).alloc (by simp) (.cells #[.bool (decide (y < 0)), .slice B (natL y.natAbs).length d] 24))
  simp only [World.size_alloc] at p1
  have V_x := Hd (NV.of h b0 p0)
  have V_y := Hd (NV.of g b0 p1)
  have F_x := Hd hx
  have F_y := Hd hy
  have HT := Hd (htab.below b0)
  have HBW := Hd b0
  clear h g htab p0 p1 b0 hx hy
  go_enter Tryd.func4, Tryd.ntmps4
  obtain ⟨W, E⟩ : ∃ W, W = ((w.alloc (.cells #[.bool (decide (x < 0)), .slice A (natL x.natAbs).length c] 24)).alloc (.cells #[.bool (decide (y < 0)), .slice B (natL y.natAbs).length d] 24)) := ⟨_, rfl⟩
  go_upto_region 1 with fail
  rw [← E] at V_x V_y HT HBW ⊢
  clear E
  go_wp2_with fail
  refine (alive_true W HT.out).mono ?_
  rintro e x1 ⟨rfl, hb⟩
  have V_x := Hd (V_x.out.below hb)
  have V_y := Hd (V_y.out.below hb)
  have HT := Hd (HT.out.below hb)
  have HBW := Hd (belowTo HBW.out hb)
  clear hb
  obtain ⟨l_x, a_x, b_x, -, -⟩ := V_x.out.pair.facts
  obtain ⟨l_y, a_y, b_y, -, -⟩ := V_y.out.pair.facts
  go_wp2_with fail
  refine (may2 x y A B c d x1 V_x.out.raw V_y.out.raw F_x.out F_y.out 24).mono ?_
  rintro e x2 ⟨rfl, hb⟩
  clear l_x a_x b_x l_y a_y b_y
  have V_x := Hd (V_x.out.below hb)
  have V_y := Hd (V_y.out.below hb)
  have HT := Hd (HT.out.below hb)
  have HBW := Hd (belowTo HBW.out hb)
  clear hb
  have hq := HQ.out
  go_wp2_with fail
  refine (H2.out x2 _ rfl).mono ?_
  rintro e xb ⟨rfl, hb⟩
  clear hq
  have V_x := Hd (V_x.out.below hb)
  have V_y := Hd (V_y.out.below hb)
  have HT := Hd (HT.out.below hb)
  have HBW := Hd (belowTo HBW.out hb)
  clear hb
  obtain ⟨l_x, a_x, b_x, -, -⟩ := V_x.out.pair.facts
  go_wp2_with fail
  refine (T1.out A c xb V_x.out.raw HT.out).mono ?_
  rintro e x3 ⟨rfl, hb⟩
  clear l_x a_x b_x
  have V_x := Hd (V_x.out.below hb)
  have V_y := Hd (V_y.out.below hb)
  have HT := Hd (HT.out.below hb)
  have HBW := Hd (belowTo HBW.out hb)
  clear hb
  obtain ⟨l_y, a_y, b_y, -, -⟩ := V_y.out.pair.facts
  go_wp2_with fail
  refine (T2.out B d x3 V_y.out.raw HT.out).mono ?_
  rintro e x4 ⟨rfl, hb⟩
  clear l_y a_y b_y
  have V_x := Hd (V_x.out.below hb)
  have V_y := Hd (V_y.out.below hb)
  have HT := Hd (HT.out.below hb)
  have HBW := Hd (belowTo HBW.out hb)
  clear hb
  go_wp2_with fail
  refine (P1.out x4).mono ?_
  rintro e p1 ⟨va, rfl, hI, hb⟩
  obtain ⟨A5, c5, rfl, -⟩ := hI.value
  have V_x := Hd (V_x.out.below hb)
  have V_y := Hd (V_y.out.below hb)
  have HT := Hd (HT.out.below hb)
  have HBW := Hd (belowTo HBW.out hb)
  have R_b := Hd hI.rawAt
  clear hI hb
  go_upto_region 6 with fail
  have ha := ((Below.refl p1.heap.size p1).alloc (Nat.le_refl _) (.cells #[.bool (decide (x < 0)), .slice A5 (natL x.natAbs).length c5] 24))
  have p_b := (Pair.new p1 24 (.bool (decide (x < 0))) (.slice A5 (natL x.natAbs).length c5))
  obtain ⟨y5, E⟩ : ∃ W, W = (p1.alloc (.cells #[.bool (decide (x < 0)), .slice A5 (natL x.natAbs).length c5] 24)) := ⟨_, rfl⟩
  rw [← E] at ha p_b ⊢
  have V_b := Hd (NV.of R_b.out ha p_b)
  have V_x := Hd (V_x.out.below ha)
  have V_y := Hd (V_y.out.below ha)
  have HT := Hd (HT.out.below ha)
  have HBW := Hd (belowTo HBW.out ha)
  obtain ⟨g5, hg⟩ : ∃ g, g = p1.heap.size := ⟨_, rfl⟩
  rw [← hg] at V_b ⊢
  clear E ha hg p_b
  have htu := HTU.out
  have htv := HTV.out
  obtain ⟨l_b, a_b, b_b, -, -⟩ := V_b.out.pair.facts
  obtain ⟨l_x, a_x, b_x, -, -⟩ := V_x.out.pair.facts
  go_wp2_with fail
  refine (S1.out y5 _ _ _ _ V_b.out.raw V_x.out.raw).mono ?_
  rintro e x6 ⟨rfl, hb⟩
  clear l_b a_b b_b l_x a_x b_x
  have V_x := Hd (V_x.out.below hb)
  have V_y := Hd (V_y.out.below hb)
  have V_b := Hd (V_b.out.below hb)
  have HT := Hd (HT.out.below hb)
  have HBW := Hd (belowTo HBW.out hb)
  clear hb
  obtain ⟨l_x, a_x, b_x, -, -⟩ := V_x.out.pair.facts
  obtain ⟨l_y, a_y, b_y, -, -⟩ := V_y.out.pair.facts
  go_wp2_with fail
  refine (S2.out x6 _ _ _ _ V_x.out.raw V_y.out.raw).mono ?_
  rintro e x7 ⟨rfl, hb⟩
  clear l_x a_x b_x l_y a_y b_y
  have V_x := Hd (V_x.out.below hb)
  have V_y := Hd (V_y.out.below hb)
  have V_b := Hd (V_b.out.below hb)
  have HT := Hd (HT.out.below hb)
  have HBW := Hd (belowTo HBW.out hb)
  clear hb
  go_upto_region 8 with fail
  go_wp2_with fail
  refine (HP2.out x7).mono ?_
  rintro e p2 ⟨va, rfl, hI, hb⟩
  obtain ⟨A6, c6, rfl, -⟩ := hI.value
  have V_x := Hd (V_x.out.below hb)
  have V_y := Hd (V_y.out.below hb)
  have V_b := Hd (V_b.out.below hb)
  have HT := Hd (HT.out.below hb)
  have HBW := Hd (belowTo HBW.out hb)
  have R_z := Hd hI.rawAt
  clear hI hb
  go_upto_region 9 with fail
  have ha := ((Below.refl p2.heap.size p2).alloc (Nat.le_refl _) (.cells #[.bool (decide (z < 0)), .slice A6 (natL z.natAbs).length c6] 24))
  have p_z := (Pair.new p2 24 (.bool (decide (z < 0))) (.slice A6 (natL z.natAbs).length c6))
  obtain ⟨y8, E⟩ : ∃ W, W = (p2.alloc (.cells #[.bool (decide (z < 0)), .slice A6 (natL z.natAbs).length c6] 24)) := ⟨_, rfl⟩
  rw [← E] at ha p_z ⊢
  have V_z := Hd (NV.of R_z.out ha p_z)
  have V_x := Hd (V_x.out.below ha)
  have V_y := Hd (V_y.out.below ha)
  have V_b := Hd (V_b.out.below ha)
  have HT := Hd (HT.out.below ha)
  have HBW := Hd (belowTo HBW.out ha)
  obtain ⟨g8, hg⟩ : ∃ g, g = p2.heap.size := ⟨_, rfl⟩
  rw [← hg] at V_z ⊢
  clear E ha hg p_z
  obtain ⟨l_z, a_z, b_z, -, -⟩ := V_z.out.pair.facts
  go_wp2_with fail
  refine (T3.out _ _ y8 V_z.out.raw HT.out).mono ?_
  rintro e x9 ⟨rfl, hb⟩
  clear l_z a_z b_z
  have V_x := Hd (V_x.out.below hb)
  have V_y := Hd (V_y.out.below hb)
  have V_b := Hd (V_b.out.below hb)
  have V_z := Hd (V_z.out.below hb)
  have HT := Hd (HT.out.below hb)
  have HBW := Hd (belowTo HBW.out hb)
  clear hb
  obtain ⟨l_z, a_z, b_z, -, -⟩ := V_z.out.pair.facts
  go_wp2_with fail
  refine (may1 z A6 c6 x9 V_z.out.raw 24 true (decide_eq_true FZ.out).symm).mono ?_
  rintro e x10 ⟨rfl, hb⟩
  clear l_z a_z b_z
  have V_x := Hd (V_x.out.below hb)
  have V_y := Hd (V_y.out.below hb)
  have V_b := Hd (V_b.out.below hb)
  have V_z := Hd (V_z.out.below hb)
  have HT := Hd (HT.out.below hb)
  have HBW := Hd (belowTo HBW.out hb)
  clear hb
  go_wp2_with fail
  go_ret
  exact ⟨rfl, HBW.out⟩

theorem back_true (n1 n2 : Bool) (A B : Option Addr) (c d : Nat) (xs ys : List Nat) (s : ByteArray) (w : World) (h : Raw w A c xs) (g : Raw w B d ys) (htab : powTab w) (hs : s.size ≤ 1152921504606846975) :
    Calls Tryd.prog 4 #[.agg #[.bool n1, .slice A xs.length c], .agg #[.bool n2, .slice B ys.length d], .string s] w fun e w' => e = .returned (.bool true) ∧ Below w.heap.size w w' := by
  cases ho : okI n1 xs && okI n2 ys with
  | false => exact back_bad s n1 n2 A B c d xs ys ho w h g htab
  | true =>
    obtain ⟨o1, o2⟩ := Bool.and_eq_true_iff.1 ho
    obtain ⟨e1, e2, fx⟩ := ok_num h.limbs o1
    obtain ⟨f1, f2, fy⟩ := ok_num g.limbs o2
    generalize ival n1 xs = x at *
    generalize ival n2 ys = y at *
    subst e1 e2 f1 f2
    cases hb : decide (1048576 < s.size) with
    | true => exact back_long s x y A B c d fx fy hs hb.symm w h g htab
    | false =>
      by_cases hxy : x = y
      · rcases parse_cases s with ⟨h1, h2⟩ | ⟨h1, h2⟩ | ⟨h1, h2, h3⟩
        · exact back_four_one s x y A B c d fx fy hs hb.symm hxy h1 h2 w h g htab
        · exact back_five_one s x y A B c d fx fy hs hb.symm hxy h1 h2 w h g htab
        · exact back_read_one s x y A B c d fx fy hs hb.symm hxy h1 h2 h3 w h g htab
      · rcases parse_cases s with ⟨h1, h2⟩ | ⟨h1, h2⟩ | ⟨h1, h2, h3⟩
        · exact back_four_two s x y A B c d fx fy hs hb.symm hxy h1 h2 w h g htab
        · exact back_five_two s x y A B c d fx fy hs hb.symm hxy h1 h2 w h g htab
        · exact back_read_two s x y A B c d fx fy hs hb.symm hxy h1 h2 h3 w h g htab
end Go.Proofs.YtbdliabfdplohaaDoor
