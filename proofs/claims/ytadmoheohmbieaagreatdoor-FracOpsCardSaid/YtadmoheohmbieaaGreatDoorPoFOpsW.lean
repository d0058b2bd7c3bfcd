/- Several texts in one: FOpsW. -/
import Derived.Test.YtadmoheohmbieaaGreatDoorPo29
set_option maxRecDepth 100000
set_option maxHeartbeats 8000000
/- FracOps: the walk. (Written by wip/frac/genfopsw.py.) -/
namespace Go.Proofs.YtadmoheohmbieaaGreatDoor
open Go.RowKit

theorem frac_Sign_bad (n1 n2 : Bool) (A B : Option Addr) (c e0 : Nat) (xs ys : List Nat) (w : World) (h : Raw w A c xs) (g : Raw w B e0 ys) (hc : (chkE n1 n2 xs ys == 0) = false) :
    Calls Tryz.prog 34 #[.agg #[.bool n1, .slice A xs.length c, .bool n2, .slice B ys.length e0]] w fun e w' => e = .returned (.int .i64 0) ∧ Below w.heap.size w w' := by
  have C1 := fun (V : World) (g' : Nat) (h : Raw V A c xs) (g : Raw V B e0 ys) (hg : V.heap.size = g') => checks_new n1 n2 A B c e0 xs ys V g' h g hg
  rw [hc] at C1
  have H1 := Hd C1
  have px := Quad.new w (.bool n1) (.slice A xs.length c) (.bool n2) (.slice B ys.length e0)
  have b0 := (Below.refl w.heap.size w).alloc (Nat.le_refl _) (.cells #[.bool n1, .slice A xs.length c, .bool n2, .slice B ys.length e0] 30)
  have RX := Hd (h.below b0)
  have RY := Hd (g.below b0)
  have PX := Hd px
  have HB := Hd b0
  clear px b0 h g C1 hc
  go_enter Tryz.func34, Tryz.ntmps34
  obtain ⟨W, E⟩ : ∃ W, W = w.alloc (.cells #[.bool n1, .slice A xs.length c, .bool n2, .slice B ys.length e0] 30) := ⟨_, rfl⟩
  go_upto_region 1 with fail
  rw [← E] at PX RX RY HB ⊢
  clear E
  obtain ⟨l_x, x0, x1, x2, x3, -, -, -, -⟩ := PX.out.facts
  go_wp2_with fail
  refine (H1.out W _ RX.out RY.out rfl).mono ?_
  rintro e wx1 ⟨rfl, hb⟩
  clear l_x x0 x1 x2 x3
  have hb := ((Below.refl W.heap.size W).alloc (Nat.le_refl _) (.cells #[.bool n1, .slice A xs.length c, .bool n2, .slice B ys.length e0] 30)).trans (hb.mono (by simp))
  have HS_wx1 := Hd (show W.heap.size ≤ wx1.heap.size from hb.size)
  have PX := Hd (PX.out.below hb)
  have RX := Hd (RX.out.below hb)
  have RY := Hd (RY.out.below hb)
  have HB := Hd (belowTo HB.out hb)
  go_wp2_with fail
  go_ret
  exact ⟨rfl, HB.out⟩

theorem sign_spec (n1 n2 : Bool) (xs ys : List Nat) (hx : Limbs xs) (hy : Limbs ys) : ∃ s : Int,
    (∀ (V : World) (A B : Option Addr) (c e0 : Nat), Raw V A c xs → Raw V B e0 ys → Calls Tryz.prog 34 #[.agg #[.bool n1, .slice A xs.length c, .bool n2, .slice B ys.length e0]] V fun e w' => e = .returned (.int .i64 s) ∧ Below V.heap.size V w') ∧
    ((chkE n1 n2 xs ys == 0) = false → s = 0) ∧ ((chkE n1 n2 xs ys == 0) = true → ∀ (V : World) (A B : Option Addr) (c e0 : Nat), Raw V A c xs → Raw V B e0 ys → Calls Tryz.prog 31 #[.agg #[.bool n1, .slice A xs.length c, .bool n2, .slice B ys.length e0]] V fun e w' => e = .returned (.int .i64 s) ∧ Below V.heap.size V w') := by
  cases hc : (chkE n1 n2 xs ys == 0) with
  | false => exact ⟨0, fun V A B c e0 h g => frac_Sign_bad n1 n2 A B c e0 xs ys V h g hc, fun _ => rfl, (fun h => by cases h)⟩
  | true =>
    obtain ⟨n, d, f1, rfl, rfl, rfl, rfl⟩ := fine_of hx hy (by simpa using hc)
    exact ⟨n.sign, fun V A B c e0 h g => frac_Sign_good n d n.sign A B c e0 V h g f1.chk rfl, (fun h => by cases h), fun _ V A B c e0 h _ => ref02_Sign n n.sign d A B c e0 V h rfl⟩
theorem cmp_spec (n1 n2 n3 n4 : Bool) (xs ys us vs : List Nat) (hx : Limbs xs) (hy : Limbs ys) (hu : Limbs us) (hv : Limbs vs) : ∃ s : Int,
    (∀ (V : World) (A B A2 B2 : Option Addr) (c e0 c2 e2 : Nat), Raw V A c xs → Raw V B e0 ys → Raw V A2 c2 us → Raw V B2 e2 vs → Calls Tryz.prog 33 #[.agg #[.bool n1, .slice A xs.length c, .bool n2, .slice B ys.length e0], .agg #[.bool n3, .slice A2 us.length c2, .bool n4, .slice B2 vs.length e2]] V fun e w' => e = .returned (.int .i64 s) ∧ Below V.heap.size V w') ∧
    ((chkE n1 n2 xs ys == 0 && chkE n3 n4 us vs == 0) = false → s = 0) ∧ ((chkE n1 n2 xs ys == 0 && chkE n3 n4 us vs == 0) = true → ∀ (V : World) (A B A2 B2 : Option Addr) (c e0 c2 e2 : Nat), Raw V A c xs → Raw V B e0 ys → Raw V A2 c2 us → Raw V B2 e2 vs → Calls Tryz.prog 32 #[.agg #[.bool n1, .slice A xs.length c, .bool n2, .slice B ys.length e0], .agg #[.bool n3, .slice A2 us.length c2, .bool n4, .slice B2 vs.length e2]] V fun e w' => e = .returned (.int .i64 s) ∧ Below V.heap.size V w') := by
  cases hc : (chkE n1 n2 xs ys == 0 && chkE n3 n4 us vs == 0) with
  | false => exact ⟨0, fun V A B A2 B2 c e0 c2 e2 h1 h2 h3 h4 => frac_Cmp_bad n1 n2 n3 n4 A B A2 B2 c e0 c2 e2 xs ys us vs V h1 h2 h3 h4 hc, fun _ => rfl, (fun h => by cases h)⟩
  | true =>
    rw [Bool.and_eq_true] at hc
    obtain ⟨n, d, f1, rfl, rfl, rfl, rfl⟩ := fine_of hx hy (by simpa using hc.1)
    obtain ⟨m, f, f2, rfl, rfl, rfl, rfl⟩ := fine_of hu hv (by simpa using hc.2)
    have hl1 : lz n ≤ 2048 := f1.num
    have hl2 : lz d ≤ 2048 := f1.den
    have hl3 : lz m ≤ 2048 := f2.num
    have hl4 : lz f ≤ 2048 := f2.den
    exact ⟨cmpz (n * f) (m * d), fun V A B A2 B2 c e0 c2 e2 h1 h2 h3 h4 => frac_Cmp_good n d m f _ A B A2 B2 c e0 c2 e2 V h1 h2 h3 h4 f1 f2 rfl, (fun h => by cases h), fun _ V A B A2 B2 c e0 c2 e2 h1 h2 h3 h4 => ref02_Cmp n d m f _ A B A2 B2 c e0 c2 e2 V h1 h2 h3 h4 (by omega) (by omega) (by omega) (by omega) rfl⟩

structure LoopO (w0 wr : World) (b i : Nat) : Prop where
  form : ∃ (rs : List Value) (lims : Value), rs.length = 2 * i ∧ Keep wr b (2 * i) (fun j => rs.getD j nilS) lims ∧ RowsFree wr w0.heap.size rs ∧ Below w0.heap.size w0 wr
theorem rows_upd (rs : List Value) (v1 v2 : Value) {i : Nat} (e : rs.length = 2 * i) (j : Nat) (hj : j < 2 * i + 2) : updV (updV (fun j => rs.getD j nilS) (2 * i) v1) (2 * i + 1) v2 j = (rs ++ [v1, v2]).getD j nilS := by
  rcases (by omega : j < 2 * i ∨ j = 2 * i ∨ j = 2 * i + 1) with h | rfl | rfl
  · rw [updV_ne _ _ (by omega), updV_ne _ _ (by omega)]
    simp [List.getD, List.getElem?_append_left (show j < rs.length by omega)]
  · rw [updV_ne _ _ (by omega), updV_same, ← e]
    simp [List.getD]
  · rw [updV_same, ← e]
    simp [List.getD]
theorem fops_true (n1 n2 n3 n4 : Bool) (A B A2 B2 : Option Addr) (c e0 c2 e2 : Nat) (xs ys us vs : List Nat) (w : World) (hx : Raw w A c xs) (kx : Raw w B e0 ys) (hy : Raw w A2 c2 us) (ky : Raw w B2 e2 vs) (htab : powTab w) (hlx : xs.length ≤ 1152921504606846975) (hly : ys.length ≤ 1152921504606846975) (hlu : us.length ≤ 1152921504606846975) (hlv : vs.length ≤ 1152921504606846975) :
    Calls Tryz.prog 4 #[.agg #[.bool n1, .slice A xs.length c, .bool n2, .slice B ys.length e0], .agg #[.bool n3, .slice A2 us.length c2, .bool n4, .slice B2 vs.length e2]] w fun e w' => e = .returned (.bool true) ∧ Below w.heap.size w w' := by
  have px := (Quad.new w (.bool n1) (.slice A xs.length c) (.bool n2) (.slice B ys.length e0)).alloc (.cells #[.bool n3, .slice A2 us.length c2, .bool n4, .slice B2 vs.length e2] 30)
  have py := Quad.new (w.alloc (.cells #[.bool n1, .slice A xs.length c, .bool n2, .slice B ys.length e0] 30)) (.bool n3) (.slice A2 us.length c2) (.bool n4) (.slice B2 vs.length e2)
  have b0 := ((Below.refl w.heap.size w).alloc (Nat.le_refl _) (.cells #[.bool n1, .slice A xs.length c, .bool n2, .slice B ys.length e0] 30)).alloc (by simp) (.cells #[.bool n3, .slice A2 us.length c2, .bool n4, .slice B2 vs.length e2] 30)
  simp only [World.size_alloc] at py
  have C1 := fun (V : World) (a1 : Raw V A c xs) (a2 : Raw V B e0 ys) => frac_cost n1 n2 A B c e0 xs ys hlx hly V a1 a2
  have C2 := fun (V : World) (a1 : Raw V A2 c2 us) (a2 : Raw V B2 e2 vs) => frac_cost n3 n4 A2 B2 c2 e2 us vs hlu hlv V a1 a2
  have hs1 := fcost_le hlx hly
  have hs2 := fcost_le hlu hlv
  obtain ⟨s1, e1⟩ : ∃ k : Nat, k = fcost xs.length ys.length := ⟨_, rfl⟩
  obtain ⟨s2, e2'⟩ : ∃ k : Nat, k = fcost us.length vs.length := ⟨_, rfl⟩
  rw [← e1] at C1 hs1
  rw [← e2'] at C2 hs2
  obtain ⟨b, hb⟩ : ∃ b : Bool, b = decide (1048576 < [s1, s2].sum) := ⟨_, rfl⟩
  have HLEN := Hd (show b = false → (xs.length ≤ 1048576 ∧ ys.length ≤ 1048576) ∧ us.length ≤ 1048576 ∧ vs.length ≤ 1048576 from by
    intro e
    rw [e] at hb
    have := of_decide_eq_false hb.symm
    unfold fcost at e1 e2'
    simp at this
    omega)
  have H3 := Hd (fun (u : Value) (V : World) (h : SliceOf [s1, s2] u V) => beyond_of2 [s1, s2] b (by simp) (by simp; omega) hb u V h)
  have H1 := Hd C1
  have H2 := Hd C2
  obtain ⟨sg, S1, S2, S3⟩ := sign_spec n1 n2 xs ys hx.limbs kx.limbs
  obtain ⟨cm, M1, M2, M3⟩ := cmp_spec n1 n2 n3 n4 xs ys us vs hx.limbs kx.limbs hy.limbs ky.limbs
  have HS1 := Hd S1
  have HS2 := Hd S2
  have HS3 := Hd S3
  have HM1 := Hd M1
  have HM2 := Hd M2
  have HM3 := Hd M3
  have HSP := Hd (fun (i : Nat) (hi : i < 4) => ops_spec i hi n1 n2 n3 n4 xs ys us vs hx.limbs kx.limbs hy.limbs ky.limbs)
  have PX := Hd px
  have PY := Hd py
  have RX := Hd (hx.below b0)
  have KX := Hd (kx.below b0)
  have RY := Hd (hy.below b0)
  have KY := Hd (ky.below b0)
  have HT := Hd (htab.below2 b0)
  have HB := Hd b0
  clear px py b0 hx kx hy ky htab hlx hly hlu hlv C1 C2 hs1 hs2 e1 e2' hb S1 S2 S3 M1 M2 M3
  go_enter Tryz.func4, Tryz.ntmps4
  go_wp2_with fail
  obtain ⟨W, E⟩ : ∃ W, W = (w.alloc (.cells #[.bool n1, .slice A xs.length c, .bool n2, .slice B ys.length e0] 30)).alloc (.cells #[.bool n3, .slice A2 us.length c2, .bool n4, .slice B2 vs.length e2] 30) := ⟨_, rfl⟩
  rw [← E] at PX PY RX KX RY KY HT HB ⊢
  clear E
  refine wp_region_free [.val (.agg #[.bool n1, .slice A xs.length c, .bool n2, .slice B ys.length e0]) [], .val (.int .i64 s1) [], .val (.agg #[.bool n3, .slice A2 us.length c2, .bool n4, .slice B2 vs.length e2]) [], .val (.int .i64 s2) [], .any false (SliceOf [s1, s2]) [], .val (.bool b) [4]] W.heap.size W [] blkInt _ mixedOrders2 (Nat.le_refl _) (Below.refl _ _) (KeptV.refl _ _ _) rfl (by kernel_rfl) (by kernel_rfl) (by kernel_rfl) (by kernel_rfl) (by kernel_rfl) (by kernel_rfl) (by kernel_rfl) (by kernel_rfl) rfl (by simp [oldsF]) ?_ ?_ ?_ ?_
  · simp only [StableF, and_true]
    exact fun u V V' h k => h.kept k
  · simp only [OldsF]
  · simp (maxSteps := 4000000) [StepsF, DepF, freeAct, fill, pairs]
    repeat' (first | apply And.intro | (intro (u : Value)) | (intro (u : Nat)))
    all_goals first
    | (intro V hV hK
       have r1 := RX.out.below hV
       have r2 := KX.out.below hV
       have r3 := RY.out.below hV
       have r4 := KY.out.below hV
       obtain ⟨-, a_x, b_x, c_x, d_x, -, -, -, -⟩ := (PX.out.below hV).facts
       obtain ⟨-, a_y, b_y, c_y, d_y, -, -, -, -⟩ := (PY.out.below hV).facts
       clear hV hK
       go_simp
       first
       | exact Below.refl _ _
       | ((with_reducible refine (H1.out V r1 r2).mono ?_); rintro e w' ⟨rfl, hb⟩; exact ⟨rfl, hb⟩)
       | ((with_reducible refine (H2.out V r3 r4).mono ?_); rintro e w' ⟨rfl, hb⟩; exact ⟨rfl, hb⟩)
       | exact ⟨SliceOf.new [s1, s2] _ _ _ rfl, (Below.refl _ _).alloc (Nat.le_refl _) _⟩)
    | (intro V hV hK h1
       clear hV hK
       go_simp
       refine (H3.out _ V h1).mono ?_
       rintro e w' ⟨rfl, hb⟩
       exact ⟨rfl, hb⟩)
  · simp [EndF, FactsF, freeAct, fill, pairs]
    intro u1 V hV hK _ _ _ _
    have PX := Hd (PX.out.below hV)
    have PY := Hd (PY.out.below hV)
    have RX := Hd (RX.out.below hV)
    have KX := Hd (KX.out.below hV)
    have RY := Hd (RY.out.below hV)
    have KY := Hd (KY.out.below hV)
    have HT := Hd (HT.out.below2 hV)
    have HB := Hd (belowTo HB.out hV)
    clear hV hK H1 H2 H3
    cases b
    case true =>
      go_wp2_with fail
      go_ret
      exact ⟨rfl, HB.out⟩
    have HL := Hd (HLEN.out rfl)
    clear HLEN
    obtain ⟨l_x, x0, x1, x2, x3, -, -, -, -⟩ := PX.out.facts
    go_wp2_with fail
    refine (twin_frac n1 n2 A B c e0 xs ys V RX.out KX.out HL.out.1.1 HL.out.1.2).mono ?_
    rintro e wx1 ⟨v, rfl, ht, hb⟩
    clear l_x x0 x1 x2 x3
    obtain ⟨g1, g2, rfl, t1, t2⟩ := ht.form
    have T1 := Hd t1
    have T2 := Hd t2
    clear ht t1 t2
    have HS_wx1 := Hd (show V.heap.size ≤ wx1.heap.size from hb.size)
    have PX := Hd (PX.out.below hb)
    have PY := Hd (PY.out.below hb)
    have RX := Hd (RX.out.below hb)
    have KX := Hd (KX.out.below hb)
    have RY := Hd (RY.out.below hb)
    have KY := Hd (KY.out.below hb)
    have HT := Hd (HT.out.below2 hb)
    have HB := Hd (belowTo HB.out hb)
    have ha := (Below.refl wx1.heap.size wx1).alloc (Nat.le_refl _) (.cells #[.bool n1, .slice (some ⟨g1, 0, none⟩) xs.length (xs.length + 1), .bool n2, .slice (some ⟨g2, 0, none⟩) ys.length (ys.length + 1)] 30)
    have hn := Quad.new wx1 (.bool n1) (.slice (some ⟨g1, 0, none⟩) xs.length (xs.length + 1)) (.bool n2) (.slice (some ⟨g2, 0, none⟩) ys.length (ys.length + 1))
    have hz : (wx1.alloc (.cells #[.bool n1, .slice (some ⟨g1, 0, none⟩) xs.length (xs.length + 1), .bool n2, .slice (some ⟨g2, 0, none⟩) ys.length (ys.length + 1)] 30)).heap.size = wx1.heap.size + 1 := by simp
    go_upto_region 4 with fail
    obtain ⟨wy2, E⟩ : ∃ W, W = wx1.alloc (.cells #[.bool n1, .slice (some ⟨g1, 0, none⟩) xs.length (xs.length + 1), .bool n2, .slice (some ⟨g2, 0, none⟩) ys.length (ys.length + 1)] 30) := ⟨_, rfl⟩
    obtain ⟨q2, hq⟩ : ∃ q, q = wx1.heap.size := ⟨_, rfl⟩
    rw [← E] at ha
    rw [← E, ← hq] at hn hz ⊢
    have HZ_wy2 := Hd (And.intro hq hz)
    have P1 := Hd hn
    have PX := Hd (PX.out.below ha)
    have PY := Hd (PY.out.below ha)
    have RX := Hd (RX.out.below ha)
    have KX := Hd (KX.out.below ha)
    have RY := Hd (RY.out.below ha)
    have KY := Hd (KY.out.below ha)
    have HT := Hd (HT.out.below2 ha)
    have T1 := Hd (T1.out.below ha)
    have T2 := Hd (T2.out.below ha)
    have HB := Hd (belowTo HB.out ha)
    clear ha hn hz hq E
    obtain ⟨l_y, y0, y1, y2, y3, -, -, -, -⟩ := PY.out.facts
    go_wp2_with fail
    refine (twin_frac n3 n4 A2 B2 c2 e2 us vs wy2 RY.out KY.out HL.out.2.1 HL.out.2.2).mono ?_
    rintro e wx3 ⟨v, rfl, ht, hb⟩
    clear l_y y0 y1 y2 y3
    obtain ⟨g3, g4, rfl, t3, t4⟩ := ht.form
    have T3 := Hd t3
    have T4 := Hd t4
    clear ht t3 t4
    have HS_wx3 := Hd (show wy2.heap.size ≤ wx3.heap.size from hb.size)
    have PX := Hd (PX.out.below hb)
    have PY := Hd (PY.out.below hb)
    have RX := Hd (RX.out.below hb)
    have KX := Hd (KX.out.below hb)
    have RY := Hd (RY.out.below hb)
    have KY := Hd (KY.out.below hb)
    have HT := Hd (HT.out.below2 hb)
    have T1 := Hd (T1.out.below hb)
    have T2 := Hd (T2.out.below hb)
    have P1 := Hd (P1.out.below hb)
    have HB := Hd (belowTo HB.out hb)
    have ha := (Below.refl wx3.heap.size wx3).alloc (Nat.le_refl _) (.cells #[.bool n3, .slice (some ⟨g3, 0, none⟩) us.length (us.length + 1), .bool n4, .slice (some ⟨g4, 0, none⟩) vs.length (vs.length + 1)] 30)
    have hn := Quad.new wx3 (.bool n3) (.slice (some ⟨g3, 0, none⟩) us.length (us.length + 1)) (.bool n4) (.slice (some ⟨g4, 0, none⟩) vs.length (vs.length + 1))
    have hz : (wx3.alloc (.cells #[.bool n3, .slice (some ⟨g3, 0, none⟩) us.length (us.length + 1), .bool n4, .slice (some ⟨g4, 0, none⟩) vs.length (vs.length + 1)] 30)).heap.size = wx3.heap.size + 1 := by simp
    go_upto_region 5 with fail
    obtain ⟨wy4, E⟩ : ∃ W, W = wx3.alloc (.cells #[.bool n3, .slice (some ⟨g3, 0, none⟩) us.length (us.length + 1), .bool n4, .slice (some ⟨g4, 0, none⟩) vs.length (vs.length + 1)] 30) := ⟨_, rfl⟩
    obtain ⟨q4, hq⟩ : ∃ q, q = wx3.heap.size := ⟨_, rfl⟩
    rw [← E] at ha
    rw [← E, ← hq] at hn hz ⊢
    have HZ_wy4 := Hd (And.intro hq hz)
    have P2 := Hd hn
    have PX := Hd (PX.out.below ha)
    have PY := Hd (PY.out.below ha)
    have RX := Hd (RX.out.below ha)
    have KX := Hd (KX.out.below ha)
    have RY := Hd (RY.out.below ha)
    have KY := Hd (KY.out.below ha)
    have HT := Hd (HT.out.below2 ha)
    have T1 := Hd (T1.out.below ha)
    have T2 := Hd (T2.out.below ha)
    have P1 := Hd (P1.out.below ha)
    have T3 := Hd (T3.out.below ha)
    have T4 := Hd (T4.out.below ha)
    have HB := Hd (belowTo HB.out ha)
    clear ha hn hz hq E
    have Q1 := Hd (T1.out.raw RX.out.limbs (by have := HL.out; omega))
    have Q2 := Hd (T2.out.raw KX.out.limbs (by have := HL.out; omega))
    have Q3 := Hd (T3.out.raw RY.out.limbs (by have := HL.out; omega))
    have Q4 := Hd (T4.out.raw KY.out.limbs (by have := HL.out; omega))
    clear HS_wx1 HZ_wy2 HS_wx3 HZ_wy4
    go_upto_region 6 with fail
    obtain ⟨v0, E⟩ : ∃ W, W = wy4.alloc (.cells #[.int .i64 0, .slice none 0 0, .slice none 0 0, .slice none 0 0, .slice none 0 0, .slice none 0 0, .slice none 0 0, .slice none 0 0, .slice none 0 0, .slice none 0 0, .slice none 0 0, .slice none 0 0, .slice none 0 0, .slice none 0 0, .slice none 0 0, .slice none 0 0, .slice none 0 0] 55) := ⟨_, rfl⟩
    have hk0 : Keep v0 wy4.heap.size 0 (fun _ => nilS) nilS := by rw [E]; exact Keep.new wy4 _
    have hW0 := Hd (show Below wy4.heap.size wy4 v0 from by rw [E]; exact (Below.refl _ _).alloc (Nat.le_refl _) _)
    rw [← E]
    obtain ⟨bk, hbb⟩ : ∃ b, b = wy4.heap.size := ⟨_, rfl⟩
    rw [← hbb] at hk0 ⊢
    have HBB := Hd hbb
    have K0 := Hd hk0
    clear E hk0 hbb
    have H0 := Hd (show LoopO wy4 v0 bk 0 from LoopO.mk ⟨[], nilS, rfl, K0.out.cong (fun j hj => by omega), RowsFree.nil _ _, hW0.out⟩)
    clear K0 hW0
    go_wp2_with fail
    go_loopw [8] (fun s wr => ∃ i : Nat, s = .int .i64 i ∧ i ≤ 4 ∧ Hid (LoopO wy4 wr bk i)) (fun s _ => 4 - (intOf s).toNat)
    case atStart => exact ⟨0, rfl, by omega, H0⟩
    case round =>
      obtain ⟨i, rfl, hi, HR⟩ := hrel
      clear H0
      obtain ⟨rs, lims, hlen, hk, hr, hlow⟩ := HR.out.form
      have HK := Hd hk
      have HRO := Hd hr
      have HLOW := Hd hlow
      have HLN := Hd hlen
      clear HR hk hr hlow hlen
      by_cases hlt : i < 4
      · obtain ⟨N, D, K, hN, hD, D1, D2⟩ := HSP.out i hlt
        have HND := Hd (And.intro hN hD)
        have HD1 := Hd D1
        have HD2 := Hd D2
        have a1 : (i : Int) < 4 := by omega
        clear hN hD D1 D2
        have LP1 := Hd (P1.out.below HLOW.out)
        have LP2 := Hd (P2.out.below HLOW.out)
        have LPX := Hd (PX.out.below HLOW.out)
        have LPY := Hd (PY.out.below HLOW.out)
        have LRX := Hd (RX.out.below HLOW.out)
        have LKX := Hd (KX.out.below HLOW.out)
        have LRY := Hd (RY.out.below HLOW.out)
        have LKY := Hd (KY.out.below HLOW.out)
        have LQ1 := Hd (Q1.out.below HLOW.out)
        have LQ2 := Hd (Q2.out.below HLOW.out)
        have LQ3 := Hd (Q3.out.below HLOW.out)
        have LQ4 := Hd (Q4.out.below HLOW.out)
        have HY := HLOW
        have LK := HK
        clear HLOW HK
        have HX0 := Hd (Below.refl wr.heap.size wr)
        have HSZ := Hd (show wy4.heap.size ≤ wr.heap.size from HY.out.size)
        obtain ⟨l_x, x0, x1, x2, x3, -, -, -, -⟩ := LP1.out.facts
        obtain ⟨l_y, y0, y1, y2, y3, -, -, -, -⟩ := LP2.out.facts
        go_wp2_with fail
        refine (HD1.out wr (some ⟨g1, 0, none⟩) (some ⟨g2, 0, none⟩) (some ⟨g3, 0, none⟩) (some ⟨g4, 0, none⟩) (xs.length + 1) (ys.length + 1) (us.length + 1) (vs.length + 1) LQ1.out LQ2.out LQ3.out LQ4.out).mono ?_
        rintro e wx51 ⟨v, rfl, hI, hb⟩
        clear l_x x0 x1 x2 x3
        clear l_y y0 y1 y2 y3
        obtain ⟨A3, c3, B3, e3, rfl, -⟩ := hI.form
        have O_VA := Hd hI
        clear hI
        have HS_wx51 := Hd (show wr.heap.size ≤ wx51.heap.size from hb.size)
        have LP1 := Hd (LP1.out.below hb)
        have LP2 := Hd (LP2.out.below hb)
        have LPX := Hd (LPX.out.below hb)
        have LPY := Hd (LPY.out.below hb)
        have LRX := Hd (LRX.out.below hb)
        have LKX := Hd (LKX.out.below hb)
        have LRY := Hd (LRY.out.below hb)
        have LKY := Hd (LKY.out.below hb)
        have LQ1 := Hd (LQ1.out.below hb)
        have LQ2 := Hd (LQ2.out.below hb)
        have LQ3 := Hd (LQ3.out.below hb)
        have LQ4 := Hd (LQ4.out.below hb)
        have LK := Hd (LK.out.below hb)
        have HY := Hd (belowTo HY.out hb)
        have HX0 := Hd (belowTo HX0.out hb)
        have ha := (Below.refl wx51.heap.size wx51).alloc (Nat.le_refl _) (.cells #[.bool (decide (N < 0)), .slice A3 (natL N.natAbs).length c3, .bool (decide (D < 0)), .slice B3 (natL D.natAbs).length e3] 30)
        have hn := FVar.new O_VA.out
        have hz : (wx51.alloc (.cells #[.bool (decide (N < 0)), .slice A3 (natL N.natAbs).length c3, .bool (decide (D < 0)), .slice B3 (natL D.natAbs).length e3] 30)).heap.size = wx51.heap.size + 1 := by simp
        go_upto_region 10 with fail
        obtain ⟨wy52, E⟩ : ∃ W, W = wx51.alloc (.cells #[.bool (decide (N < 0)), .slice A3 (natL N.natAbs).length c3, .bool (decide (D < 0)), .slice B3 (natL D.natAbs).length e3] 30) := ⟨_, rfl⟩
        obtain ⟨q52, hq⟩ : ∃ q, q = wx51.heap.size := ⟨_, rfl⟩
        rw [← E] at ha
        rw [← E, ← hq] at hn hz ⊢
        have HZ_wy52 := Hd (And.intro hq hz)
        have VA := Hd hn
        have LP1 := Hd (LP1.out.below ha)
        have LP2 := Hd (LP2.out.below ha)
        have LPX := Hd (LPX.out.below ha)
        have LPY := Hd (LPY.out.below ha)
        have LRX := Hd (LRX.out.below ha)
        have LKX := Hd (LKX.out.below ha)
        have LRY := Hd (LRY.out.below ha)
        have LKY := Hd (LKY.out.below ha)
        have LQ1 := Hd (LQ1.out.below ha)
        have LQ2 := Hd (LQ2.out.below ha)
        have LQ3 := Hd (LQ3.out.below ha)
        have LQ4 := Hd (LQ4.out.below ha)
        have LK := Hd (LK.out.below ha)
        have HY := Hd (belowTo HY.out ha)
        have HX0 := Hd (belowTo HX0.out ha)
        clear ha hn hz hq E
        obtain ⟨l_x, x0, x1, x2, x3, -, -, -, -⟩ := LPX.out.facts
        obtain ⟨l_y, y0, y1, y2, y3, -, -, -, -⟩ := LPY.out.facts
        go_wp2_with fail
        refine (HD2.out wy52 A B A2 B2 c e0 c2 e2 LRX.out LKX.out LRY.out LKY.out).mono ?_
        rintro e wx53 ⟨v, rfl, hI, hb⟩
        clear l_x x0 x1 x2 x3
        clear l_y y0 y1 y2 y3
        obtain ⟨A5, c5, B5, e5, rfl, r1, r2⟩ := hI.form
        have O_VW := Hd (And.intro r1 r2)
        clear hI r1 r2
        have HS_wx53 := Hd (show wy52.heap.size ≤ wx53.heap.size from hb.size)
        have LP1 := Hd (LP1.out.below hb)
        have LP2 := Hd (LP2.out.below hb)
        have LPX := Hd (LPX.out.below hb)
        have LPY := Hd (LPY.out.below hb)
        have LRX := Hd (LRX.out.below hb)
        have LKX := Hd (LKX.out.below hb)
        have LRY := Hd (LRY.out.below hb)
        have LKY := Hd (LKY.out.below hb)
        have LQ1 := Hd (LQ1.out.below hb)
        have LQ2 := Hd (LQ2.out.below hb)
        have LQ3 := Hd (LQ3.out.below hb)
        have LQ4 := Hd (LQ4.out.below hb)
        have LK := Hd (LK.out.below hb)
        have VA := Hd (VA.out.below hb)
        have HY := Hd (belowTo HY.out hb)
        have HX0 := Hd (belowTo HX0.out hb)
        have ha := (Below.refl wx53.heap.size wx53).alloc (Nat.le_refl _) (.cells #[.bool (decide (N < 0)), .slice A5 (natL N.natAbs).length c5, .bool (decide (D < 0)), .slice B5 (natL D.natAbs).length e5] 30)
        have hn := FV.new O_VW.out.1 O_VW.out.2
        have hz : (wx53.alloc (.cells #[.bool (decide (N < 0)), .slice A5 (natL N.natAbs).length c5, .bool (decide (D < 0)), .slice B5 (natL D.natAbs).length e5] 30)).heap.size = wx53.heap.size + 1 := by simp
        go_upto_region 11 with fail
        obtain ⟨wy54, E⟩ : ∃ W, W = wx53.alloc (.cells #[.bool (decide (N < 0)), .slice A5 (natL N.natAbs).length c5, .bool (decide (D < 0)), .slice B5 (natL D.natAbs).length e5] 30) := ⟨_, rfl⟩
        obtain ⟨q54, hq⟩ : ∃ q, q = wx53.heap.size := ⟨_, rfl⟩
        rw [← E] at ha
        rw [← E, ← hq] at hn hz ⊢
        have HZ_wy54 := Hd (And.intro hq hz)
        have VW := Hd hn
        have LP1 := Hd (LP1.out.below ha)
        have LP2 := Hd (LP2.out.below ha)
        have LPX := Hd (LPX.out.below ha)
        have LPY := Hd (LPY.out.below ha)
        have LRX := Hd (LRX.out.below ha)
        have LKX := Hd (LKX.out.below ha)
        have LRY := Hd (LRY.out.below ha)
        have LKY := Hd (LKY.out.below ha)
        have LQ1 := Hd (LQ1.out.below ha)
        have LQ2 := Hd (LQ2.out.below ha)
        have LQ3 := Hd (LQ3.out.below ha)
        have LQ4 := Hd (LQ4.out.below ha)
        have LK := Hd (LK.out.below ha)
        have VA := Hd (VA.out.below ha)
        have HY := Hd (belowTo HY.out ha)
        have HX0 := Hd (belowTo HX0.out ha)
        clear ha hn hz hq E
        obtain ⟨l_a, a0, a1, a2, a3, -, -, -, -⟩ := VA.out.quad.facts
        obtain ⟨l_b, b0, b1, b2, b3, -, -, -, -⟩ := VW.out.quad.facts
        go_wp2_with fail
        refine (sameFrac_true _ _ _ _ wy54 VA.out.at_ VW.out.at_).mono ?_
        rintro e wx55 ⟨rfl, hb⟩
        clear l_a a0 a1 a2 a3
        clear l_b b0 b1 b2 b3
        have HS_wx55 := Hd (show wy54.heap.size ≤ wx55.heap.size from hb.size)
        have LP1 := Hd (LP1.out.below hb)
        have LP2 := Hd (LP2.out.below hb)
        have LPX := Hd (LPX.out.below hb)
        have LPY := Hd (LPY.out.below hb)
        have LRX := Hd (LRX.out.below hb)
        have LKX := Hd (LKX.out.below hb)
        have LRY := Hd (LRY.out.below hb)
        have LKY := Hd (LKY.out.below hb)
        have LQ1 := Hd (LQ1.out.below hb)
        have LQ2 := Hd (LQ2.out.below hb)
        have LQ3 := Hd (LQ3.out.below hb)
        have LQ4 := Hd (LQ4.out.below hb)
        have LK := Hd (LK.out.below hb)
        have VA := Hd (VA.out.below hb)
        have VW := Hd (VW.out.below hb)
        have HY := Hd (belowTo HY.out hb)
        have HX0 := Hd (belowTo HX0.out hb)
        clear LP1 LP2 LPX LPY LRX LKX LRY LKY LQ1 LQ2 LQ3 LQ4 O_VA O_VW HD1 HD2
        have HRW := Hd (show RowsFree wx55 wy4.heap.size (rs ++ [.slice A3 (natL N.natAbs).length c3, .slice B3 (natL D.natAbs).length e3]) from by
          obtain ⟨⟨X1, r1⟩, ⟨X2, r2⟩, h4⟩ := VA.out.own.rows
          exact (HRO.out.below HX0.out).snoc2 HRO.out (by have := HSZ.out; omega) (by have := HND.out; unfold lz at this; omega) (by have := HND.out; unfold lz at this; omega) r1 r2 h4)
        have e2i : rs.length = 2 * i := HLN.out
        clear VW
        obtain ⟨l_1, u1, u2, u3, u4, -, -, -, -⟩ := VA.out.quad.facts
        go_wp2_with fail
        refine (book_Frac_all bk (2 * i) (fun j => rs.getD j nilS) lims (decide (N < 0)) (decide (D < 0)) A3 B3 (natL N.natAbs).length c3 (natL D.natAbs).length e3 (by omega) _ LK.out).mono ?_
        rintro e vz ⟨rfl, lims2, hk, hb, hf⟩
        have HN := Hd (show LoopO wy4 vz bk (i + 1) from LoopO.mk ⟨rs ++ [.slice A3 (natL N.natAbs).length c3, .slice B3 (natL D.natAbs).length e3], lims2, by rw [List.length_append, e2i]; simp; omega, hk.cong (fun j hj => rows_upd rs _ _ e2i j (by omega)), HRW.out.far hf LK.out.book, HY.out.trans (HBB.out ▸ hb)⟩)
        clear l_1 u1 u2 u3 u4 hk hb hf VA LK HRW HRO HY HX0 e2i
        go_wp2_with fail
        go_roundw
        case rel => exact ⟨i + 1, by go_num, hlt, HN⟩
        case measure => simp [intOf]; omega
      · obtain rfl : i = 4 := by omega
        have B_P1 := P1
        have B_P2 := P2
        have B_PX := PX
        have B_PY := PY
        have B_RX := RX
        have B_KX := KX
        have B_RY := RY
        have B_KY := KY
        have B_T1 := T1
        have B_T2 := T2
        have B_T3 := T3
        have B_T4 := T4
        have B_HT := HT
        have P1 := Hd (P1.out.below HLOW.out)
        have P2 := Hd (P2.out.below HLOW.out)
        have PX := Hd (PX.out.below HLOW.out)
        have PY := Hd (PY.out.below HLOW.out)
        have RX := Hd (RX.out.below HLOW.out)
        have KX := Hd (KX.out.below HLOW.out)
        have RY := Hd (RY.out.below HLOW.out)
        have KY := Hd (KY.out.below HLOW.out)
        have Q1 := Hd (Q1.out.below HLOW.out)
        have Q2 := Hd (Q2.out.below HLOW.out)
        have Q3 := Hd (Q3.out.below HLOW.out)
        have Q4 := Hd (Q4.out.below HLOW.out)
        have HY := HLOW
        have HRX := HRO
        clear HLOW hlt hi
        clear HSP HRO
        have C5 := fun (V : World) (g' : Nat) (h : Raw V A c xs) (g : Raw V B e0 ys) (hg : V.heap.size = g') => rchecks_new n1 n2 A B c e0 xs ys V g' h g hg
        have C6 := fun (V : World) (g' : Nat) (a1 : Raw V A c xs) (a2 : Raw V B e0 ys) (a3 : Raw V A2 c2 us) (a4 : Raw V B2 e2 vs) (hg : V.heap.size = g') => rchecks_two n1 n2 n3 n4 A B A2 B2 c e0 c2 e2 xs ys us vs V g' a1 a2 a3 a4 hg
        obtain ⟨b1, hb1⟩ : ∃ b : Bool, b = (chkE n1 n2 xs ys == 0) := ⟨_, rfl⟩
        obtain ⟨b2, hb2⟩ : ∃ b : Bool, b = (chkE n1 n2 xs ys == 0 && chkE n3 n4 us vs == 0) := ⟨_, rfl⟩
        rw [← hb1] at C5
        rw [← hb2] at C6
        have HS2 := Hd (fun (h : b1 = false) => HS2.out (by rw [← hb1]; exact h))
        have HM2 := Hd (fun (h : b2 = false) => HM2.out (by rw [← hb2]; exact h))
        have HS3 := Hd (fun (h : b1 = true) => HS3.out (by rw [← hb1]; exact h))
        have HM3 := Hd (fun (h : b2 = true) => HM3.out (by rw [← hb2]; exact h))
        have H5 := Hd C5
        have H6 := Hd C6
        clear C5 C6 hb1 hb2
        obtain ⟨l_x, x0, x1, x2, x3, -, -, -, -⟩ := PX.out.facts
        go_wp2_with fail
        refine (H5.out wr _ RX.out KX.out rfl).mono ?_
        rintro e wx101 ⟨rfl, hb⟩
        clear l_x x0 x1 x2 x3
        have hb := ((Below.refl wr.heap.size wr).alloc (Nat.le_refl _) (.cells #[.bool n1, .slice A xs.length c, .bool n2, .slice B ys.length e0] 30)).trans (hb.mono (by simp))
        have HS_wx101 := Hd (show wr.heap.size ≤ wx101.heap.size from hb.size)
        have P1 := Hd (P1.out.below hb)
        have P2 := Hd (P2.out.below hb)
        have PX := Hd (PX.out.below hb)
        have PY := Hd (PY.out.below hb)
        have RX := Hd (RX.out.below hb)
        have KX := Hd (KX.out.below hb)
        have RY := Hd (RY.out.below hb)
        have KY := Hd (KY.out.below hb)
        have Q1 := Hd (Q1.out.below hb)
        have Q2 := Hd (Q2.out.below hb)
        have Q3 := Hd (Q3.out.below hb)
        have Q4 := Hd (Q4.out.below hb)
        have HK := Hd (HK.out.below hb)
        have HRX := Hd (HRX.out.below hb)
        have HY := Hd (belowTo HY.out hb)
        clear H5
        cases b1
        case false =>
          have hsg := HS2.out rfl
          subst hsg
          obtain ⟨l_x, x0, x1, x2, x3, -, -, -, -⟩ := PX.out.facts
          obtain ⟨l_y, y0, y1, y2, y3, -, -, -, -⟩ := PY.out.facts
          go_wp2_with fail
          refine (H6.out wx101 _ RX.out KX.out RY.out KY.out rfl).mono ?_
          rintro e wx102 ⟨rfl, hb⟩
          clear l_x x0 x1 x2 x3
          clear l_y y0 y1 y2 y3
          have hb := ((Below.refl wx101.heap.size wx101).alloc (Nat.le_refl _) (.cells #[.bool n1, .slice A xs.length c, .bool n2, .slice B ys.length e0, .bool n3, .slice A2 us.length c2, .bool n4, .slice B2 vs.length e2] 30)).trans (hb.mono (by simp))
          have HS_wx102 := Hd (show wx101.heap.size ≤ wx102.heap.size from hb.size)
          have P1 := Hd (P1.out.below hb)
          have P2 := Hd (P2.out.below hb)
          have PX := Hd (PX.out.below hb)
          have PY := Hd (PY.out.below hb)
          have RX := Hd (RX.out.below hb)
          have KX := Hd (KX.out.below hb)
          have RY := Hd (RY.out.below hb)
          have KY := Hd (KY.out.below hb)
          have Q1 := Hd (Q1.out.below hb)
          have Q2 := Hd (Q2.out.below hb)
          have Q3 := Hd (Q3.out.below hb)
          have Q4 := Hd (Q4.out.below hb)
          have HK := Hd (HK.out.below hb)
          have HRX := Hd (HRX.out.below hb)
          have HY := Hd (belowTo HY.out hb)
          cases b2
          case false =>
            have hcm := HM2.out rfl
            subst hcm
            clear PX PY RX KX RY KY
            obtain ⟨l_x, x0, x1, x2, x3, -, -, -, -⟩ := P1.out.facts
            obtain ⟨l_y, y0, y1, y2, y3, -, -, -, -⟩ := P2.out.facts
            go_wp2_with fail
            refine (HM1.out wx102 (some ⟨g1, 0, none⟩) (some ⟨g2, 0, none⟩) (some ⟨g3, 0, none⟩) (some ⟨g4, 0, none⟩) (xs.length + 1) (ys.length + 1) (us.length + 1) (vs.length + 1) Q1.out Q2.out Q3.out Q4.out).mono ?_
            rintro e wx103 ⟨rfl, hb⟩
            clear l_x x0 x1 x2 x3
            clear l_y y0 y1 y2 y3
            have HS_wx103 := Hd (show wx102.heap.size ≤ wx103.heap.size from hb.size)
            have P1 := Hd (P1.out.below hb)
            have P2 := Hd (P2.out.below hb)
            have Q1 := Hd (Q1.out.below hb)
            have Q2 := Hd (Q2.out.below hb)
            have Q3 := Hd (Q3.out.below hb)
            have Q4 := Hd (Q4.out.below hb)
            have HK := Hd (HK.out.below hb)
            have HRX := Hd (HRX.out.below hb)
            have HY := Hd (belowTo HY.out hb)
            clear P2 Q3 Q4
            obtain ⟨l_x, x0, x1, x2, x3, -, -, -, -⟩ := P1.out.facts
            go_wp2_with fail
            refine (HS1.out wx103 (some ⟨g1, 0, none⟩) (some ⟨g2, 0, none⟩) (xs.length + 1) (ys.length + 1) Q1.out Q2.out).mono ?_
            rintro e wx104 ⟨rfl, hb⟩
            clear l_x x0 x1 x2 x3
            have HS_wx104 := Hd (show wx103.heap.size ≤ wx104.heap.size from hb.size)
            have P1 := Hd (P1.out.below hb)
            have Q1 := Hd (Q1.out.below hb)
            have Q2 := Hd (Q2.out.below hb)
            have HK := Hd (HK.out.below hb)
            have HRX := Hd (HRX.out.below hb)
            have HY := Hd (belowTo HY.out hb)
            have e8 : rs.length = 8 := HLN.out
            have HF := Hd (apart_free bk wy4.heap.size rs lims wy4 wx104 (by intro e; rw [e] at e8; simp at e8) (by omega) (by rw [e8]; exact HK.out) HRX.out (by rw [HBB.out]; exact Nat.le_refl _) HY.out)
            clear e8
            go_wp2_with fail
            refine HF.out.mono ?_
            rintro e wf ⟨rfl, hb1⟩
            clear P1 Q1 Q2 HK HRX HY HF
            have P1 := Hd (B_P1.out.below hb1)
            have P2 := Hd (B_P2.out.below hb1)
            have PX := Hd (B_PX.out.below hb1)
            have PY := Hd (B_PY.out.below hb1)
            have RX := Hd (B_RX.out.below hb1)
            have KX := Hd (B_KX.out.below hb1)
            have RY := Hd (B_RY.out.below hb1)
            have KY := Hd (B_KY.out.below hb1)
            have T1 := Hd (B_T1.out.below hb1)
            have T2 := Hd (B_T2.out.below hb1)
            have T3 := Hd (B_T3.out.below hb1)
            have T4 := Hd (B_T4.out.below hb1)
            have HT := Hd (B_HT.out.below2 hb1)
            have HB := Hd (belowTo HB.out hb1)
            clear hb1
            obtain ⟨l_t, t0, t1, t2, t3, -, -, -, -⟩ := P1.out.facts
            obtain ⟨l_x, x0, x1, x2, x3, -, -, -, -⟩ := PX.out.facts
            go_wp2_with fail
            refine (left_frac n1 n2 A B c e0 xs ys g1 g2 wf RX.out KX.out T1.out T2.out HL.out.1.1 HL.out.1.2).mono ?_
            rintro e wx105 ⟨rfl, hb⟩
            clear l_t t0 t1 t2 t3
            clear l_x x0 x1 x2 x3
            have HS_wx105 := Hd (show wf.heap.size ≤ wx105.heap.size from hb.size)
            have P1 := Hd (P1.out.below hb)
            have P2 := Hd (P2.out.below hb)
            have PX := Hd (PX.out.below hb)
            have PY := Hd (PY.out.below hb)
            have RX := Hd (RX.out.below hb)
            have KX := Hd (KX.out.below hb)
            have RY := Hd (RY.out.below hb)
            have KY := Hd (KY.out.below hb)
            have T1 := Hd (T1.out.below hb)
            have T2 := Hd (T2.out.below hb)
            have T3 := Hd (T3.out.below hb)
            have T4 := Hd (T4.out.below hb)
            have HT := Hd (HT.out.below2 hb)
            have HB := Hd (belowTo HB.out hb)
            clear P1 PX RX KX T1 T2
            obtain ⟨l_t, t0, t1, t2, t3, -, -, -, -⟩ := P2.out.facts
            obtain ⟨l_x, x0, x1, x2, x3, -, -, -, -⟩ := PY.out.facts
            go_wp2_with fail
            refine (left_frac n3 n4 A2 B2 c2 e2 us vs g3 g4 wx105 RY.out KY.out T3.out T4.out HL.out.2.1 HL.out.2.2).mono ?_
            rintro e wx106 ⟨rfl, hb⟩
            clear l_t t0 t1 t2 t3
            clear l_x x0 x1 x2 x3
            have HS_wx106 := Hd (show wx105.heap.size ≤ wx106.heap.size from hb.size)
            have P2 := Hd (P2.out.below hb)
            have PY := Hd (PY.out.below hb)
            have RY := Hd (RY.out.below hb)
            have KY := Hd (KY.out.below hb)
            have T3 := Hd (T3.out.below hb)
            have T4 := Hd (T4.out.below hb)
            have HT := Hd (HT.out.below2 hb)
            have HB := Hd (belowTo HB.out hb)
            clear P2 PY RY KY T3 T4
            go_wp2_with fail
            refine (lives_ours wx106 HT.out).mono ?_
            rintro e wx107 ⟨rfl, hb⟩
            have HS_wx107 := Hd (show wx106.heap.size ≤ wx107.heap.size from hb.size)
            have HB := Hd (belowTo HB.out hb)
            go_wp2_with fail
            go_ret
            exact ⟨rfl, HB.out⟩
          case true =>
            obtain ⟨l_x, x0, x1, x2, x3, -, -, -, -⟩ := PX.out.facts
            obtain ⟨l_y, y0, y1, y2, y3, -, -, -, -⟩ := PY.out.facts
            go_wp2_with fail
            refine (HM3.out (by simp) wx102 A B A2 B2 c e0 c2 e2 RX.out KX.out RY.out KY.out).mono ?_
            rintro e wx103 ⟨rfl, hb⟩
            clear l_x x0 x1 x2 x3
            clear l_y y0 y1 y2 y3
            have HS_wx103 := Hd (show wx102.heap.size ≤ wx103.heap.size from hb.size)
            have P1 := Hd (P1.out.below hb)
            have P2 := Hd (P2.out.below hb)
            have PX := Hd (PX.out.below hb)
            have PY := Hd (PY.out.below hb)
            have RX := Hd (RX.out.below hb)
            have KX := Hd (KX.out.below hb)
            have RY := Hd (RY.out.below hb)
            have KY := Hd (KY.out.below hb)
            have Q1 := Hd (Q1.out.below hb)
            have Q2 := Hd (Q2.out.below hb)
            have Q3 := Hd (Q3.out.below hb)
            have Q4 := Hd (Q4.out.below hb)
            have HK := Hd (HK.out.below hb)
            have HRX := Hd (HRX.out.below hb)
            have HY := Hd (belowTo HY.out hb)
            clear PX PY RX KX RY KY
            obtain ⟨l_x, x0, x1, x2, x3, -, -, -, -⟩ := P1.out.facts
            obtain ⟨l_y, y0, y1, y2, y3, -, -, -, -⟩ := P2.out.facts
            go_wp2_with fail
            refine (HM1.out wx103 (some ⟨g1, 0, none⟩) (some ⟨g2, 0, none⟩) (some ⟨g3, 0, none⟩) (some ⟨g4, 0, none⟩) (xs.length + 1) (ys.length + 1) (us.length + 1) (vs.length + 1) Q1.out Q2.out Q3.out Q4.out).mono ?_
            rintro e wx104 ⟨rfl, hb⟩
            clear l_x x0 x1 x2 x3
            clear l_y y0 y1 y2 y3
            have HS_wx104 := Hd (show wx103.heap.size ≤ wx104.heap.size from hb.size)
            have P1 := Hd (P1.out.below hb)
            have P2 := Hd (P2.out.below hb)
            have Q1 := Hd (Q1.out.below hb)
            have Q2 := Hd (Q2.out.below hb)
            have Q3 := Hd (Q3.out.below hb)
            have Q4 := Hd (Q4.out.below hb)
            have HK := Hd (HK.out.below hb)
            have HRX := Hd (HRX.out.below hb)
            have HY := Hd (belowTo HY.out hb)
            clear P2 Q3 Q4
            obtain ⟨l_x, x0, x1, x2, x3, -, -, -, -⟩ := P1.out.facts
            go_wp2_with fail
            refine (HS1.out wx104 (some ⟨g1, 0, none⟩) (some ⟨g2, 0, none⟩) (xs.length + 1) (ys.length + 1) Q1.out Q2.out).mono ?_
            rintro e wx105 ⟨rfl, hb⟩
            clear l_x x0 x1 x2 x3
            have HS_wx105 := Hd (show wx104.heap.size ≤ wx105.heap.size from hb.size)
            have P1 := Hd (P1.out.below hb)
            have Q1 := Hd (Q1.out.below hb)
            have Q2 := Hd (Q2.out.below hb)
            have HK := Hd (HK.out.below hb)
            have HRX := Hd (HRX.out.below hb)
            have HY := Hd (belowTo HY.out hb)
            have e8 : rs.length = 8 := HLN.out
            have HF := Hd (apart_free bk wy4.heap.size rs lims wy4 wx105 (by intro e; rw [e] at e8; simp at e8) (by omega) (by rw [e8]; exact HK.out) HRX.out (by rw [HBB.out]; exact Nat.le_refl _) HY.out)
            clear e8
            go_wp2_with fail
            refine HF.out.mono ?_
            rintro e wf ⟨rfl, hb1⟩
            clear P1 Q1 Q2 HK HRX HY HF
            have P1 := Hd (B_P1.out.below hb1)
            have P2 := Hd (B_P2.out.below hb1)
            have PX := Hd (B_PX.out.below hb1)
            have PY := Hd (B_PY.out.below hb1)
            have RX := Hd (B_RX.out.below hb1)
            have KX := Hd (B_KX.out.below hb1)
            have RY := Hd (B_RY.out.below hb1)
            have KY := Hd (B_KY.out.below hb1)
            have T1 := Hd (B_T1.out.below hb1)
            have T2 := Hd (B_T2.out.below hb1)
            have T3 := Hd (B_T3.out.below hb1)
            have T4 := Hd (B_T4.out.below hb1)
            have HT := Hd (B_HT.out.below2 hb1)
            have HB := Hd (belowTo HB.out hb1)
            clear hb1
            obtain ⟨l_t, t0, t1, t2, t3, -, -, -, -⟩ := P1.out.facts
            obtain ⟨l_x, x0, x1, x2, x3, -, -, -, -⟩ := PX.out.facts
            go_wp2_with fail
            refine (left_frac n1 n2 A B c e0 xs ys g1 g2 wf RX.out KX.out T1.out T2.out HL.out.1.1 HL.out.1.2).mono ?_
            rintro e wx106 ⟨rfl, hb⟩
            clear l_t t0 t1 t2 t3
            clear l_x x0 x1 x2 x3
            have HS_wx106 := Hd (show wf.heap.size ≤ wx106.heap.size from hb.size)
            have P1 := Hd (P1.out.below hb)
            have P2 := Hd (P2.out.below hb)
            have PX := Hd (PX.out.below hb)
            have PY := Hd (PY.out.below hb)
            have RX := Hd (RX.out.below hb)
            have KX := Hd (KX.out.below hb)
            have RY := Hd (RY.out.below hb)
            have KY := Hd (KY.out.below hb)
            have T1 := Hd (T1.out.below hb)
            have T2 := Hd (T2.out.below hb)
            have T3 := Hd (T3.out.below hb)
            have T4 := Hd (T4.out.below hb)
            have HT := Hd (HT.out.below2 hb)
            have HB := Hd (belowTo HB.out hb)
            clear P1 PX RX KX T1 T2
            obtain ⟨l_t, t0, t1, t2, t3, -, -, -, -⟩ := P2.out.facts
            obtain ⟨l_x, x0, x1, x2, x3, -, -, -, -⟩ := PY.out.facts
            go_wp2_with fail
            refine (left_frac n3 n4 A2 B2 c2 e2 us vs g3 g4 wx106 RY.out KY.out T3.out T4.out HL.out.2.1 HL.out.2.2).mono ?_
            rintro e wx107 ⟨rfl, hb⟩
            clear l_t t0 t1 t2 t3
            clear l_x x0 x1 x2 x3
            have HS_wx107 := Hd (show wx106.heap.size ≤ wx107.heap.size from hb.size)
            have P2 := Hd (P2.out.below hb)
            have PY := Hd (PY.out.below hb)
            have RY := Hd (RY.out.below hb)
            have KY := Hd (KY.out.below hb)
            have T3 := Hd (T3.out.below hb)
            have T4 := Hd (T4.out.below hb)
            have HT := Hd (HT.out.below2 hb)
            have HB := Hd (belowTo HB.out hb)
            clear P2 PY RY KY T3 T4
            go_wp2_with fail
            refine (lives_ours wx107 HT.out).mono ?_
            rintro e wx108 ⟨rfl, hb⟩
            have HS_wx108 := Hd (show wx107.heap.size ≤ wx108.heap.size from hb.size)
            have HB := Hd (belowTo HB.out hb)
            go_wp2_with fail
            go_ret
            exact ⟨rfl, HB.out⟩
        case true =>
          obtain ⟨l_x, x0, x1, x2, x3, -, -, -, -⟩ := PX.out.facts
          go_wp2_with fail
          refine (HS3.out (by simp) wx101 A B c e0 RX.out KX.out).mono ?_
          rintro e wx102 ⟨rfl, hb⟩
          clear l_x x0 x1 x2 x3
          have HS_wx102 := Hd (show wx101.heap.size ≤ wx102.heap.size from hb.size)
          have P1 := Hd (P1.out.below hb)
          have P2 := Hd (P2.out.below hb)
          have PX := Hd (PX.out.below hb)
          have PY := Hd (PY.out.below hb)
          have RX := Hd (RX.out.below hb)
          have KX := Hd (KX.out.below hb)
          have RY := Hd (RY.out.below hb)
          have KY := Hd (KY.out.below hb)
          have Q1 := Hd (Q1.out.below hb)
          have Q2 := Hd (Q2.out.below hb)
          have Q3 := Hd (Q3.out.below hb)
          have Q4 := Hd (Q4.out.below hb)
          have HK := Hd (HK.out.below hb)
          have HRX := Hd (HRX.out.below hb)
          have HY := Hd (belowTo HY.out hb)
          obtain ⟨l_x, x0, x1, x2, x3, -, -, -, -⟩ := PX.out.facts
          obtain ⟨l_y, y0, y1, y2, y3, -, -, -, -⟩ := PY.out.facts
          go_wp2_with fail
          refine (H6.out wx102 _ RX.out KX.out RY.out KY.out rfl).mono ?_
          rintro e wx103 ⟨rfl, hb⟩
          clear l_x x0 x1 x2 x3
          clear l_y y0 y1 y2 y3
          have hb := ((Below.refl wx102.heap.size wx102).alloc (Nat.le_refl _) (.cells #[.bool n1, .slice A xs.length c, .bool n2, .slice B ys.length e0, .bool n3, .slice A2 us.length c2, .bool n4, .slice B2 vs.length e2] 30)).trans (hb.mono (by simp))
          have HS_wx103 := Hd (show wx102.heap.size ≤ wx103.heap.size from hb.size)
          have P1 := Hd (P1.out.below hb)
          have P2 := Hd (P2.out.below hb)
          have PX := Hd (PX.out.below hb)
          have PY := Hd (PY.out.below hb)
          have RX := Hd (RX.out.below hb)
          have KX := Hd (KX.out.below hb)
          have RY := Hd (RY.out.below hb)
          have KY := Hd (KY.out.below hb)
          have Q1 := Hd (Q1.out.below hb)
          have Q2 := Hd (Q2.out.below hb)
          have Q3 := Hd (Q3.out.below hb)
          have Q4 := Hd (Q4.out.below hb)
          have HK := Hd (HK.out.below hb)
          have HRX := Hd (HRX.out.below hb)
          have HY := Hd (belowTo HY.out hb)
          cases b2
          case false =>
            have hcm := HM2.out rfl
            subst hcm
            clear PX PY RX KX RY KY
            obtain ⟨l_x, x0, x1, x2, x3, -, -, -, -⟩ := P1.out.facts
            obtain ⟨l_y, y0, y1, y2, y3, -, -, -, -⟩ := P2.out.facts
            go_wp2_with fail
            refine (HM1.out wx103 (some ⟨g1, 0, none⟩) (some ⟨g2, 0, none⟩) (some ⟨g3, 0, none⟩) (some ⟨g4, 0, none⟩) (xs.length + 1) (ys.length + 1) (us.length + 1) (vs.length + 1) Q1.out Q2.out Q3.out Q4.out).mono ?_
            rintro e wx104 ⟨rfl, hb⟩
            clear l_x x0 x1 x2 x3
            clear l_y y0 y1 y2 y3
            have HS_wx104 := Hd (show wx103.heap.size ≤ wx104.heap.size from hb.size)
            have P1 := Hd (P1.out.below hb)
            have P2 := Hd (P2.out.below hb)
            have Q1 := Hd (Q1.out.below hb)
            have Q2 := Hd (Q2.out.below hb)
            have Q3 := Hd (Q3.out.below hb)
            have Q4 := Hd (Q4.out.below hb)
            have HK := Hd (HK.out.below hb)
            have HRX := Hd (HRX.out.below hb)
            have HY := Hd (belowTo HY.out hb)
            clear P2 Q3 Q4
            obtain ⟨l_x, x0, x1, x2, x3, -, -, -, -⟩ := P1.out.facts
            go_wp2_with fail
            refine (HS1.out wx104 (some ⟨g1, 0, none⟩) (some ⟨g2, 0, none⟩) (xs.length + 1) (ys.length + 1) Q1.out Q2.out).mono ?_
            rintro e wx105 ⟨rfl, hb⟩
            clear l_x x0 x1 x2 x3
            have HS_wx105 := Hd (show wx104.heap.size ≤ wx105.heap.size from hb.size)
            have P1 := Hd (P1.out.below hb)
            have Q1 := Hd (Q1.out.below hb)
            have Q2 := Hd (Q2.out.below hb)
            have HK := Hd (HK.out.below hb)
            have HRX := Hd (HRX.out.below hb)
            have HY := Hd (belowTo HY.out hb)
            have e8 : rs.length = 8 := HLN.out
            have HF := Hd (apart_free bk wy4.heap.size rs lims wy4 wx105 (by intro e; rw [e] at e8; simp at e8) (by omega) (by rw [e8]; exact HK.out) HRX.out (by rw [HBB.out]; exact Nat.le_refl _) HY.out)
            clear e8
            go_wp2_with fail
            refine HF.out.mono ?_
            rintro e wf ⟨rfl, hb1⟩
            clear P1 Q1 Q2 HK HRX HY HF
            have P1 := Hd (B_P1.out.below hb1)
            have P2 := Hd (B_P2.out.below hb1)
            have PX := Hd (B_PX.out.below hb1)
            have PY := Hd (B_PY.out.below hb1)
            have RX := Hd (B_RX.out.below hb1)
            have KX := Hd (B_KX.out.below hb1)
            have RY := Hd (B_RY.out.below hb1)
            have KY := Hd (B_KY.out.below hb1)
            have T1 := Hd (B_T1.out.below hb1)
            have T2 := Hd (B_T2.out.below hb1)
            have T3 := Hd (B_T3.out.below hb1)
            have T4 := Hd (B_T4.out.below hb1)
            have HT := Hd (B_HT.out.below2 hb1)
            have HB := Hd (belowTo HB.out hb1)
            clear hb1
            obtain ⟨l_t, t0, t1, t2, t3, -, -, -, -⟩ := P1.out.facts
            obtain ⟨l_x, x0, x1, x2, x3, -, -, -, -⟩ := PX.out.facts
            go_wp2_with fail
            refine (left_frac n1 n2 A B c e0 xs ys g1 g2 wf RX.out KX.out T1.out T2.out HL.out.1.1 HL.out.1.2).mono ?_
            rintro e wx106 ⟨rfl, hb⟩
            clear l_t t0 t1 t2 t3
            clear l_x x0 x1 x2 x3
            have HS_wx106 := Hd (show wf.heap.size ≤ wx106.heap.size from hb.size)
            have P1 := Hd (P1.out.below hb)
            have P2 := Hd (P2.out.below hb)
            have PX := Hd (PX.out.below hb)
            have PY := Hd (PY.out.below hb)
            have RX := Hd (RX.out.below hb)
            have KX := Hd (KX.out.below hb)
            have RY := Hd (RY.out.below hb)
            have KY := Hd (KY.out.below hb)
            have T1 := Hd (T1.out.below hb)
            have T2 := Hd (T2.out.below hb)
            have T3 := Hd (T3.out.below hb)
            have T4 := Hd (T4.out.below hb)
            have HT := Hd (HT.out.below2 hb)
            have HB := Hd (belowTo HB.out hb)
            clear P1 PX RX KX T1 T2
            obtain ⟨l_t, t0, t1, t2, t3, -, -, -, -⟩ := P2.out.facts
            obtain ⟨l_x, x0, x1, x2, x3, -, -, -, -⟩ := PY.out.facts
            go_wp2_with fail
            refine (left_frac n3 n4 A2 B2 c2 e2 us vs g3 g4 wx106 RY.out KY.out T3.out T4.out HL.out.2.1 HL.out.2.2).mono ?_
            rintro e wx107 ⟨rfl, hb⟩
            clear l_t t0 t1 t2 t3
            clear l_x x0 x1 x2 x3
            have HS_wx107 := Hd (show wx106.heap.size ≤ wx107.heap.size from hb.size)
            have P2 := Hd (P2.out.below hb)
            have PY := Hd (PY.out.below hb)
            have RY := Hd (RY.out.below hb)
            have KY := Hd (KY.out.below hb)
            have T3 := Hd (T3.out.below hb)
            have T4 := Hd (T4.out.below hb)
            have HT := Hd (HT.out.below2 hb)
            have HB := Hd (belowTo HB.out hb)
            clear P2 PY RY KY T3 T4
            go_wp2_with fail
            refine (lives_ours wx107 HT.out).mono ?_
            rintro e wx108 ⟨rfl, hb⟩
            have HS_wx108 := Hd (show wx107.heap.size ≤ wx108.heap.size from hb.size)
            have HB := Hd (belowTo HB.out hb)
            go_wp2_with fail
            go_ret
            exact ⟨rfl, HB.out⟩
          case true =>
            obtain ⟨l_x, x0, x1, x2, x3, -, -, -, -⟩ := PX.out.facts
            obtain ⟨l_y, y0, y1, y2, y3, -, -, -, -⟩ := PY.out.facts
            go_wp2_with fail
            refine (HM3.out (by simp) wx103 A B A2 B2 c e0 c2 e2 RX.out KX.out RY.out KY.out).mono ?_
            rintro e wx104 ⟨rfl, hb⟩
            clear l_x x0 x1 x2 x3
            clear l_y y0 y1 y2 y3
            have HS_wx104 := Hd (show wx103.heap.size ≤ wx104.heap.size from hb.size)
            have P1 := Hd (P1.out.below hb)
            have P2 := Hd (P2.out.below hb)
            have PX := Hd (PX.out.below hb)
            have PY := Hd (PY.out.below hb)
            have RX := Hd (RX.out.below hb)
            have KX := Hd (KX.out.below hb)
            have RY := Hd (RY.out.below hb)
            have KY := Hd (KY.out.below hb)
            have Q1 := Hd (Q1.out.below hb)
            have Q2 := Hd (Q2.out.below hb)
            have Q3 := Hd (Q3.out.below hb)
            have Q4 := Hd (Q4.out.below hb)
            have HK := Hd (HK.out.below hb)
            have HRX := Hd (HRX.out.below hb)
            have HY := Hd (belowTo HY.out hb)
            clear PX PY RX KX RY KY
            obtain ⟨l_x, x0, x1, x2, x3, -, -, -, -⟩ := P1.out.facts
            obtain ⟨l_y, y0, y1, y2, y3, -, -, -, -⟩ := P2.out.facts
            go_wp2_with fail
            refine (HM1.out wx104 (some ⟨g1, 0, none⟩) (some ⟨g2, 0, none⟩) (some ⟨g3, 0, none⟩) (some ⟨g4, 0, none⟩) (xs.length + 1) (ys.length + 1) (us.length + 1) (vs.length + 1) Q1.out Q2.out Q3.out Q4.out).mono ?_
            rintro e wx105 ⟨rfl, hb⟩
            clear l_x x0 x1 x2 x3
            clear l_y y0 y1 y2 y3
            have HS_wx105 := Hd (show wx104.heap.size ≤ wx105.heap.size from hb.size)
            have P1 := Hd (P1.out.below hb)
            have P2 := Hd (P2.out.below hb)
            have Q1 := Hd (Q1.out.below hb)
            have Q2 := Hd (Q2.out.below hb)
            have Q3 := Hd (Q3.out.below hb)
            have Q4 := Hd (Q4.out.below hb)
            have HK := Hd (HK.out.below hb)
            have HRX := Hd (HRX.out.below hb)
            have HY := Hd (belowTo HY.out hb)
            clear P2 Q3 Q4
            obtain ⟨l_x, x0, x1, x2, x3, -, -, -, -⟩ := P1.out.facts
            go_wp2_with fail
            refine (HS1.out wx105 (some ⟨g1, 0, none⟩) (some ⟨g2, 0, none⟩) (xs.length + 1) (ys.length + 1) Q1.out Q2.out).mono ?_
            rintro e wx106 ⟨rfl, hb⟩
            clear l_x x0 x1 x2 x3
            have HS_wx106 := Hd (show wx105.heap.size ≤ wx106.heap.size from hb.size)
            have P1 := Hd (P1.out.below hb)
            have Q1 := Hd (Q1.out.below hb)
            have Q2 := Hd (Q2.out.below hb)
            have HK := Hd (HK.out.below hb)
            have HRX := Hd (HRX.out.below hb)
            have HY := Hd (belowTo HY.out hb)
            have e8 : rs.length = 8 := HLN.out
            have HF := Hd (apart_free bk wy4.heap.size rs lims wy4 wx106 (by intro e; rw [e] at e8; simp at e8) (by omega) (by rw [e8]; exact HK.out) HRX.out (by rw [HBB.out]; exact Nat.le_refl _) HY.out)
            clear e8
            go_wp2_with fail
            refine HF.out.mono ?_
            rintro e wf ⟨rfl, hb1⟩
            clear P1 Q1 Q2 HK HRX HY HF
            have P1 := Hd (B_P1.out.below hb1)
            have P2 := Hd (B_P2.out.below hb1)
            have PX := Hd (B_PX.out.below hb1)
            have PY := Hd (B_PY.out.below hb1)
            have RX := Hd (B_RX.out.below hb1)
            have KX := Hd (B_KX.out.below hb1)
            have RY := Hd (B_RY.out.below hb1)
            have KY := Hd (B_KY.out.below hb1)
            have T1 := Hd (B_T1.out.below hb1)
            have T2 := Hd (B_T2.out.below hb1)
            have T3 := Hd (B_T3.out.below hb1)
            have T4 := Hd (B_T4.out.below hb1)
            have HT := Hd (B_HT.out.below2 hb1)
            have HB := Hd (belowTo HB.out hb1)
            clear hb1
            obtain ⟨l_t, t0, t1, t2, t3, -, -, -, -⟩ := P1.out.facts
            obtain ⟨l_x, x0, x1, x2, x3, -, -, -, -⟩ := PX.out.facts
            go_wp2_with fail
            refine (left_frac n1 n2 A B c e0 xs ys g1 g2 wf RX.out KX.out T1.out T2.out HL.out.1.1 HL.out.1.2).mono ?_
            rintro e wx107 ⟨rfl, hb⟩
            clear l_t t0 t1 t2 t3
            clear l_x x0 x1 x2 x3
            have HS_wx107 := Hd (show wf.heap.size ≤ wx107.heap.size from hb.size)
            have P1 := Hd (P1.out.below hb)
            have P2 := Hd (P2.out.below hb)
            have PX := Hd (PX.out.below hb)
            have PY := Hd (PY.out.below hb)
            have RX := Hd (RX.out.below hb)
            have KX := Hd (KX.out.below hb)
            have RY := Hd (RY.out.below hb)
            have KY := Hd (KY.out.below hb)
            have T1 := Hd (T1.out.below hb)
            have T2 := Hd (T2.out.below hb)
            have T3 := Hd (T3.out.below hb)
            have T4 := Hd (T4.out.below hb)
            have HT := Hd (HT.out.below2 hb)
            have HB := Hd (belowTo HB.out hb)
            clear P1 PX RX KX T1 T2
            obtain ⟨l_t, t0, t1, t2, t3, -, -, -, -⟩ := P2.out.facts
            obtain ⟨l_x, x0, x1, x2, x3, -, -, -, -⟩ := PY.out.facts
            go_wp2_with fail
            refine (left_frac n3 n4 A2 B2 c2 e2 us vs g3 g4 wx107 RY.out KY.out T3.out T4.out HL.out.2.1 HL.out.2.2).mono ?_
            rintro e wx108 ⟨rfl, hb⟩
            clear l_t t0 t1 t2 t3
            clear l_x x0 x1 x2 x3
            have HS_wx108 := Hd (show wx107.heap.size ≤ wx108.heap.size from hb.size)
            have P2 := Hd (P2.out.below hb)
            have PY := Hd (PY.out.below hb)
            have RY := Hd (RY.out.below hb)
            have KY := Hd (KY.out.below hb)
            have T3 := Hd (T3.out.below hb)
            have T4 := Hd (T4.out.below hb)
            have HT := Hd (HT.out.below2 hb)
            have HB := Hd (belowTo HB.out hb)
            clear P2 PY RY KY T3 T4
            go_wp2_with fail
            refine (lives_ours wx108 HT.out).mono ?_
            rintro e wx109 ⟨rfl, hb⟩
            have HS_wx109 := Hd (show wx108.heap.size ≤ wx109.heap.size from hb.size)
            have HB := Hd (belowTo HB.out hb)
            go_wp2_with fail
            go_ret
            exact ⟨rfl, HB.out⟩
end Go.Proofs.YtadmoheohmbieaaGreatDoor
