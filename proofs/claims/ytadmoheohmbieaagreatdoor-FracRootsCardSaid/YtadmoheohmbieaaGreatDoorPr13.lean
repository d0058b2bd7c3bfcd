/- Several texts in one: Common, Lz, RefTimes, RefDivide. -/
import Derived.Test.YtadmoheohmbieaaGreatDoorPr12
import Derived.Deep.LoopGhost
import Derived.Test.YtadmoheohmbieaaGreatDoorPr01
import Derived.Test.YtadmoheohmbieaaGreatDoorPr07
import Derived.Test.YtadmoheohmbieaaGreatDoorPr10
import Derived.Test.YtadmoheohmbieaaGreatDoorPr05
/- Common of package exact: the greatest number that goes into both. -/
namespace Go.Proofs.YtadmoheohmbieaaGreatDoor
open Go.RowKit

/-- While two numbers are held in two variables. -/
structure Held2 (w wr : World) (ba bb : Nat) (A1 : Option Addr) (c1 x : Nat) (A2 : Option Addr) (c2 y : Nat) : Prop where
  pa : Pair wr ba 24 (.bool false) (.slice A1 (natL x).length c1)
  pb : Pair wr bb 24 (.bool false) (.slice A2 (natL y).length c2)
  one : OwnN wr w.heap.size (.slice A1 (natL x).length c1) x
  two : OwnN wr w.heap.size (.slice A2 (natL y).length c2) y
  low : Below w.heap.size w wr
  la : w.heap.size + 3 ≤ ba
  lb : w.heap.size + 3 ≤ bb
  ne : ba ≠ bb
  res : Pair wr (w.heap.size + 2) 24 (.bool false) (.slice none 0 0)
theorem OwnN.drew {w : World} {base n : Nat} {v : Value} (h : OwnN w base v n) : OwnN w.drew base v n := h.below (Below.refl _ _).drew
theorem Held2.drew {w wr : World} {ba bb : Nat} {A1 A2 : Option Addr} {c1 x c2 y : Nat} (h : Held2 w wr ba bb A1 c1 x A2 c2 y) : Held2 w wr.drew ba bb A1 c1 x A2 c2 y :=
  ⟨h.pa.drew, h.pb.drew, h.one.drew, h.two.drew, h.low.drew, h.la, h.lb, h.ne, h.res.drew⟩

set_option maxRecDepth 100000 in
set_option maxHeartbeats 2000000 in
theorem exact_Common (n1 n2 : Bool) (A B : Option Addr) (c d : Nat) (xs ys : List Nat) (hlx : xs.length ≤ 536870912) (hly : ys.length ≤ 536870912) (w : World) (h : Raw w A c xs) (g : Raw w B d ys) :
    Calls Tryz.prog 155 #[.agg #[.bool n1, .slice A xs.length c], .agg #[.bool n2, .slice B ys.length d]] w (RetInt w.heap.size w ((Nat.gcd (val xs) (val ys) : Nat) : Int)) := by
  have px := ((Pair.new w 24 (.bool n1) (.slice A xs.length c)).alloc (.cells #[.bool n2, .slice B ys.length d] 24)).alloc (.cells #[.bool false, .slice none 0 0] 24)
  have py := (Pair.new (w.alloc (.cells #[.bool n1, .slice A xs.length c] 24)) 24 (.bool n2) (.slice B ys.length d)).alloc (.cells #[.bool false, .slice none 0 0] 24)
  have pr := Pair.new ((w.alloc (.cells #[.bool n1, .slice A xs.length c] 24)).alloc (.cells #[.bool n2, .slice B ys.length d] 24)) 24 (.bool false) (.slice none 0 0)
  have rx := (((h.alloc (.cells #[.bool n1, .slice A xs.length c] 24)).alloc (.cells #[.bool n2, .slice B ys.length d] 24)).alloc (.cells #[.bool false, .slice none 0 0] 24))
  have ry := (((g.alloc (.cells #[.bool n1, .slice A xs.length c] 24)).alloc (.cells #[.bool n2, .slice B ys.length d] 24)).alloc (.cells #[.bool false, .slice none 0 0] 24))
  have b0 := (((Below.refl w.heap.size w).alloc (Nat.le_refl _) (.cells #[.bool n1, .slice A xs.length c] 24)).alloc (by simp) (.cells #[.bool n2, .slice B ys.length d] 24)).alloc (by simp; omega) (.cells #[.bool false, .slice none 0 0] 24)
  simp only [World.size_alloc] at py pr
  have HLX := Lib.hid h.limbs
  have HLY := Lib.hid g.limbs
  clear h g
  go_enter Tryz.func155, Tryz.ntmps155
  go_wp2_with fail
  obtain ⟨W, E⟩ : ∃ W, W = ((w.alloc (.cells #[.bool n1, .slice A xs.length c] 24)).alloc (.cells #[.bool n2, .slice B ys.length d] 24)).alloc (.cells #[.bool false, .slice none 0 0] 24) := ⟨_, rfl⟩
  rw [← E] at px py pr b0 rx ry ⊢
  have hszW : w.heap.size + 3 ≤ W.heap.size := by rw [E]; simp
  clear E
  have PX := Lib.hid px
  have PY := Lib.hid py
  have PR := Lib.hid pr
  have B0 := Lib.hid b0
  have H1 := Lib.hid (fun (V : World) (hV : Below W.heap.size W V) => (exact_own false A c xs (by omega) V (rx.below hV)).mono (R' := RetInt w.heap.size V ((val xs : Nat) : Int)) (by rintro e w' ⟨v, rfl, hv, hb⟩; exact ⟨v, rfl, hv.base (by have := hV.size; omega), hb⟩))
  have H2 := Lib.hid (fun (V : World) (hV : Below W.heap.size W V) => (exact_own false B d ys (by omega) V (ry.below hV)).mono (R' := RetInt w.heap.size V ((val ys : Nat) : Int)) (by rintro e w' ⟨v, rfl, hv, hb⟩; exact ⟨v, rfl, hv.base (by have := hV.size; omega), hb⟩))
  obtain ⟨X, hX⟩ : ∃ X, X = val xs := ⟨_, rfl⟩
  obtain ⟨Y, hY⟩ : ∃ Y, Y = val ys := ⟨_, rfl⟩
  rw [← hX] at H1
  rw [← hY] at H2
  have HLx := Lib.hid (show (natL X).length ≤ 536870912 by rw [hX]; exact Nat.le_trans (natL_val_le HLX.out) hlx)
  have HLy := Lib.hid (show (natL Y).length ≤ 536870912 by rw [hY]; exact Nat.le_trans (natL_val_le HLY.out) hly)
  have HXY := Lib.hid (And.intro hX hY)
  clear px py pr rx ry b0 HLX HLY hX hY
  refine wp_region_free [.val (.pointer (some ⟨w.heap.size, 1, none⟩)) [], .val (.slice A xs.length c) [], .any false (fun u V => IntOwn V w.heap.size u (X : Int)) [],
      .val (.pointer (some ⟨w.heap.size + 1, 1, none⟩)) [], .val (.slice B ys.length d) [], .any false (fun u V => IntOwn V w.heap.size u (Y : Int)) [], .new 24 2, .new 24 2, .put 24 2 6 2 [], .put 24 2 7 5 []]
    W.heap.size W [24] (fun _ _ => False) _ mixedOrders2 (Nat.le_refl _) (Below.refl _ _) (KeptV.refl _ _ _) rfl (by kernel_rfl) (by kernel_rfl) (by kernel_rfl) (by kernel_rfl) (by kernel_rfl) (by kernel_rfl) (by kernel_rfl) (by kernel_rfl) rfl (by simp [oldsF]) ?_ ?_ ?_ ?_
  · simp only [StableF, and_true]
    exact ⟨fun u V V' h k => h.kept k (by decide), fun u V V' h k => h.kept k (by decide)⟩
  · simp only [OldsF]
  · simp [StepsF, DepF, freeAct, fill, pairs]
    repeat' (first | apply And.intro | (intro (u : Value)) | (intro (u : Nat)))
    all_goals try exact ⟨_, _, _, rfl, rfl, rfl, rfl, intInfo⟩
    all_goals try exact allocInt rfl
    all_goals first
    | (intro V hV hK
       obtain ⟨-, -, a1, -, -⟩ := (PX.out.below hV).facts
       obtain ⟨-, -, b1, -, -⟩ := (PY.out.below hV).facts
       have HV := Lib.hid hV
       clear hV
       go_simp
       first
       | exact Below.refl _ _
       | ((with_reducible refine (H1.out V HV.out).mono ?_); rintro e w' ⟨v, rfl, hv, hb⟩; exact ⟨hv, hb⟩)
       | ((with_reducible refine (H2.out V HV.out).mono ?_); rintro e w' ⟨v, rfl, hv, hb⟩; exact ⟨hv, hb⟩))
    | exact fun _ _ _ (h : IntOwn _ _ _ _) => h.cells
  · simp [EndF, FactsF, freeAct, fill, pairs]
    intro u v ba hba bb hbb V hV hK h1 h2 p1 p2 _ _ hne
    have hne2 : ba ≠ bb := by
      intro e
      subst e
      exact hne.new 6 7 rfl rfl (by decide) rfl
    obtain ⟨A1, c1, rfl, o1⟩ := h1.nat
    obtain ⟨A2, c2, rfl, o2⟩ := h2.nat
    have HH := Lib.hid (show Held2 w V ba bb A1 c1 X A2 c2 Y from ⟨⟨p1⟩, ⟨p2⟩, o1, o2, belowTo B0.out hV, by omega, by omega, hne2, PR.out.below hV⟩)
    clear h1 h2 p1 p2 hne hne2 o1 o2 hV hK hba hbb
    go_wp2_with fail
    go_loopg [] (Y) (fun k wr => ∃ A1 c1 x A2 c2, Hid (Held2 w wr ba bb A1 c1 x A2 c2 k ∧ Nat.gcd x k = Nat.gcd X Y ∧ (natL x).length ≤ 536870912 ∧ (natL k).length ≤ 536870912))
    case atStart => exact ⟨A1, c1, X, A2, c2, Lib.hid ⟨HH.out, rfl, HLx.out, HLy.out⟩⟩
    case round =>
      clear HH
      obtain ⟨A1, c1, x, A2, c2, HR⟩ := hrel
      obtain ⟨hh, hg, hl1, hl2⟩ := HR.out
      have HG := Lib.hid hg
      have HH := Lib.hid hh
      obtain ⟨l1, a0, a1, f0, f1⟩ := hh.pa.facts
      obtain ⟨l2, b0, b1, g0, g1⟩ := hh.pb.facts
      clear HR hh hg
      rcases Nat.eq_zero_or_pos gk with hk | hk
      · subst hk
        have hln : (natL 0).length = 0 := by simp [natL_zero]
        rw [hln] at b1
        have hone := HH.out.one
        have hlow := HH.out.low
        have hxg : x = Nat.gcd X Y := by rw [← HG.out, Nat.gcd_zero_right]
        have hres := HH.out.res
        obtain ⟨l3, q0, q1, r0, r1⟩ := hres.facts
        have HO := Lib.hid (hone.pair hres (.bool false) (.slice A1 (natL x).length c1))
        have HB := Lib.hid (below2 hlow (show w.heap.size ≤ w.heap.size + 2 by omega) (.bool false) (.slice A1 (natL x).length c1))
        have HQ := Lib.hid (hres.store (.bool false) (.slice A1 (natL x).length c1))
        have hfin : IntOwn ((wr.setCell ⟨w.heap.size + 2, 0, none⟩ (.bool false)).setCell ⟨w.heap.size + 2, 1, none⟩ (.slice A1 (natL x).length c1)) w.heap.size (.agg #[.bool false, .slice A1 (natL x).length c1]) ((Nat.gcd (val xs) (val ys) : Nat) : Int) := by
          rw [← HXY.out.1, ← HXY.out.2, ← hxg]; exact HO.out.int
        have HF := Lib.hid hfin
        clear hln hone hlow hxg hres HH HG hfin HO
        go_wp2_with fail
        obtain ⟨_, k0, k1, _, _⟩ := HQ.out.facts
        exact bodyPost_ret (by simp [results, Tryz.results155, go_sem, k0, k1]) rfl ⟨_, rfl, HF.out, HB.out⟩
      · have hlk : (0 : Int) < ((natL gk).length : Int) := by
          have : (natL gk).length ≠ 0 := fun h0 => by
            have := natL_eq_nil.1 (List.eq_nil_of_length_eq_zero h0)
            omega
          omega
        have hne : natL gk ≠ [] := fun h0 => by rw [h0] at hlk; simp at hlk
        have C1 := Lib.hid (exact_Divide false false A1 A2 c1 c2 (natL x) (natL gk) (canon_natL _) (canon_natL _) hne (by omega) (by omega) wr HH.out.one.raw_ HH.out.two.raw_)
        go_wp2_with fail
        refine C1.out.mono ?_
        rintro e w1 ⟨v1, v2, rfl, hI, hb⟩
        have hz : (ival false (natL x)).tmod (ival false (natL gk)) = ((x % gk : Nat) : Int) := by
          unfold ival
          simp only [val_natL, Bool.false_eq_true, if_false]
          rw [Int.ofNat_tmod]
        obtain ⟨b9, A9, k9, c9, rfl⟩ := hI.one.shape
        have hI2 := hI.two
        rw [hz] at hI2
        obtain ⟨A3, c3, rfl, o3⟩ := hI2.nat
        have HA := Lib.hid (HH.out.pa.below hb)
        have HBb := Lib.hid (HH.out.pb.below hb)
        have HRs := Lib.hid (HH.out.res.below hb)
        have HO2 := Lib.hid (HH.out.two.below hb)
        have HO3 := Lib.hid (o3.base (b' := w.heap.size) HH.out.low.size)
        have HLo := Lib.hid (belowTo HH.out.low hb)
        have hs1 := HA.out.size
        have hs2 := HBb.out.size
        clear hz hI hI2 o3 hb l1 a0 a1 f0 f1 l2 b0 b1 g0 g1 C1
        go_wp2_with fail
        obtain ⟨W2, E2⟩ : ∃ W2, W2 = (w1.alloc (.cells #[.bool b9, .slice A9 k9 c9] 24)).alloc (.cells #[.bool false, .slice A3 (natL (x % gk)).length c3] 24) := ⟨_, rfl⟩
        have hp8 := Pair.new (w1.alloc (.cells #[.bool b9, .slice A9 k9 c9] 24)) 24 (.bool false) (.slice A3 (natL (x % gk)).length c3)
        have hb2 := ((Below.refl w1.heap.size w1).alloc (Nat.le_refl _) (.cells #[.bool b9, .slice A9 k9 c9] 24)).alloc (by simp) (.cells #[.bool false, .slice A3 (natL (x % gk)).length c3] 24)
        rw [← E2] at hp8 hb2 ⊢
        simp only [World.size_alloc] at hp8
        clear E2
        have pa := HA.out.below hb2
        have pb := HBb.out.below hb2
        have o2 := HO2.out.below hb2
        have o3 := HO3.out.below hb2
        have hlw := HLo.out.size
        have hn8 : bb ≠ w1.heap.size + 1 := by omega
        have hn8a : ba ≠ w1.heap.size + 1 := by omega
        have ne := HH.out.ne
        have HN := Lib.hid (show Held2 w ((((W2.setCell ⟨ba, 0, none⟩ (.bool false)).setCell ⟨ba, 1, none⟩ (.slice A2 (natL gk).length c2)).setCell ⟨bb, 0, none⟩ (.bool false)).setCell ⟨bb, 1, none⟩ (.slice A3 (natL (x % gk)).length c3)) ba bb A2 c2 gk A3 c3 (x % gk) from
          ⟨(pa.store _ _).far ne _ _, (pb.far (Ne.symm ne) _ _).store _ _, (o2.pair pa _ _).pair (pb.far (Ne.symm ne) _ _) _ _, (o3.pair pa _ _).pair (pb.far (Ne.symm ne) _ _) _ _,
            below2 (below2 (belowTo HLo.out hb2) (by have := HH.out.la; omega) _ _) (by have := HH.out.lb; omega) _ _, HH.out.la, HH.out.lb, ne,
            (((HRs.out.below hb2).far (by have := HH.out.la; omega) _ _).far (by have := HH.out.lb; omega) _ _)⟩)
        have hgc : Nat.gcd gk (x % gk) = Nat.gcd X Y := by
          rw [← HG.out, Nat.gcd_comm x gk, Nat.gcd_rec gk x, Nat.gcd_comm]
        have hln : (natL (x % gk)).length ≤ 536870912 := Nat.le_trans (natL_mono (Nat.le_of_lt (Nat.mod_lt _ hk))) hl2
        have HGC := Lib.hid (And.intro hgc hln)
        have HM := Lib.hid (Nat.mod_lt x hk)
        obtain ⟨m1, a0, a1, f0, f1⟩ := pa.facts
        obtain ⟨m2, b0, b1, g0, g1⟩ := pb.facts
        obtain ⟨m3, d0, d1, -, -⟩ := hp8.facts
        clear pa pb hp8 o2 o3 hgc hln hb2 HA HBb HRs HO2 HO3 HLo HG HH hlw
        go_region
        all_goals (go_wp2_with fail)
        all_goals (go_roundg (x % gk))
        case measure => exact HM.out
        case rel => exact ⟨A2, c2, gk, A3, c3, Lib.hid ⟨HN.out.drew, HGC.out.1, hl2, HGC.out.2⟩⟩
end Go.Proofs.YtadmoheohmbieaaGreatDoor

/- How long numbers get. -/
namespace Go.Proofs.YtadmoheohmbieaaGreatDoor

/-- How many limbs. -/
def lz (z : Int) : Nat := (natL z.natAbs).length
theorem lz_le {z : Int} {k : Nat} : lz z ≤ k ↔ z.natAbs < 4294967296 ^ k := natL_length_le
theorem lz_lt (z : Int) : z.natAbs < 4294967296 ^ lz z := lz_le.1 (Nat.le_refl _)
theorem lz_mono {x y : Int} (h : x.natAbs ≤ y.natAbs) : lz x ≤ lz y := lz_le.2 (Nat.lt_of_le_of_lt h (lz_lt y))
theorem lz_mul (x y : Int) : lz (x * y) ≤ lz x + lz y := by
  rw [lz_le, Int.natAbs_mul, Nat.pow_add]
  have h1 := lz_lt x
  have h2 := lz_lt y
  exact Nat.mul_lt_mul'' h1 h2
theorem lz_add (x y : Int) : lz (x + y) ≤ max (lz x) (lz y) + 1 := by
  rw [lz_le, Nat.pow_succ]
  have h1 : x.natAbs < 4294967296 ^ max (lz x) (lz y) := lz_le.1 (Nat.le_max_left _ _)
  have h2 : y.natAbs < 4294967296 ^ max (lz x) (lz y) := lz_le.1 (Nat.le_max_right _ _)
  have h3 := Int.natAbs_add_le x y
  generalize 4294967296 ^ max (lz x) (lz y) = p at *
  omega
end Go.Proofs.YtadmoheohmbieaaGreatDoor

/- times, fitting, half, even of the references. -/
namespace Go.Proofs.YtadmoheohmbieaaGreatDoor
open Go.RowKit

theorem Row.rawN {w : World} {g : Nat} {zs : List Nat} (h : Row w g zs) (hz : Limbs zs) (hm : zs.length ≤ 9223372036854775807) : Raw w (some ⟨g, 0, none⟩) zs.length (natL (val zs)) :=
  ⟨limbs_natL _, natL_val_le hz, hm, by have := h.reads.take (natL (val zs)).length; rwa [← natL_take hz] at this⟩

set_option maxRecDepth 100000 in
set_option maxHeartbeats 1000000 in
theorem ref_times (A : Option Addr) (c n : Nat) (xs : List Nat) (hn : n < 4294967296) (hlx : xs.length ≤ 536870912) (w : World) (h : Raw w A c xs) :
    Calls Tryz.prog 247 #[.slice A xs.length c, .int .u32 n] w (RetN w.heap.size w (val xs * n)) := by
  have hr : Row (w.alloc (.cells #[.int .u32 n] 89)) w.heap.size [n] := ⟨Blk.new w _ _⟩
  have hl : Limbs [n] := by intro x hx; simp at hx; omega
  have hv : val [n] = n := by simp [val]
  have C1 := Lib.hid (ref_trim (some ⟨w.heap.size, 0, none⟩) 1 [n] hl (by simp) (by omega) _ (w.alloc (.cells #[.int .u32 n] 89)) hr.reads)
  have hraw := hr.rawN hl (by simp)
  rw [hv] at hraw
  have C2 := ref_mulN A (some ⟨w.heap.size, 0, none⟩) c 1 xs (natL n) hlx (by have := natL_val_le hl; rw [hv] at this; simp at this; omega) (w.alloc (.cells #[.int .u32 n] 89)) (h.alloc _) hraw
  rw [val_natL] at C2
  have H2 := Lib.hid C2
  rw [hv] at C1
  have hB := Lib.hid ((Below.refl w.heap.size w).alloc (Nat.le_refl _) (.cells #[.int .u32 n] 89))
  clear hr hl hv hraw C2 h
  go_enter Tryz.func247, Tryz.ntmps247
  go_wp2_with fail
  refine C1.out.mono ?_
  rintro e w1 ⟨rfl, rfl⟩
  go_wp2_with fail
  refine H2.out.mono ?_
  rintro e w2 ⟨v, rfl, hv, hb⟩
  have HV := Lib.hid (hv.base (b' := w.heap.size) (by simp))
  have HB := Lib.hid (hB.out.trans (hb.mono (by simp)))
  clear hv hb C1 H2 hB
  go_wp2_with fail
  go_ret
  exact ⟨_, rfl, HV.out, HB.out⟩

set_option maxRecDepth 100000 in
set_option maxHeartbeats 1000000 in
theorem ref_fitting (A B : Option Addr) (c d : Nat) (xs ys : List Nat) (hcx : Canon xs) (hly : ys.length ≤ 536870912) (hy : 0 < val ys) (hq : val xs / val ys < 4294967296) (w : World) (h : Raw w A c xs) (g : Raw w B d ys) :
    Calls Tryz.prog 262 #[.slice A xs.length c, .slice B ys.length d] w fun e w' => e = .returned (.int .u32 ((val xs / val ys : Nat) : Int)) ∧ Below w.heap.size w w' := by
  have RX := Lib.hid h
  have RY := Lib.hid g
  have HC := Lib.hid hcx
  have HY := Lib.hid hy
  obtain ⟨q, hqe⟩ : ∃ q, q = val xs / val ys := ⟨_, rfl⟩
  rw [← hqe] at hq
  rw [← hqe]
  have HQ := Lib.hid hqe
  have hqi : (q : Int) < 4294967296 := by omega
  have B0 := Lib.hid (Below.refl w.heap.size w)
  clear h g hcx hy hqe
  go_enter Tryz.func262, Tryz.ntmps262
  go_wp2_with fail
  go_loopw [5, 6] (fun v5 v6 wr => ∃ l h : Nat, v5 = .int .u64 l ∧ v6 = .int .u64 h ∧ l ≤ q ∧ q ≤ h ∧ h ≤ 4294967295 ∧ Hid (Below w.heap.size w wr)) (fun v5 v6 _ => (intOf v6).toNat - (intOf v5).toNat)
  case atStart => exact ⟨0, 4294967295, rfl, rfl, Nat.zero_le _, by omega, Nat.le_refl _, B0⟩
  case round =>
    obtain ⟨l, h, rfl, rfl, h1, h2, h3, HB⟩ := hrel
    clear B0
    by_cases hlt : l < h
    · obtain ⟨m, hm⟩ : ∃ m : Nat, m = (l + h + 1) / 2 := ⟨_, rfl⟩
      have hmi : ((l : Int) + (h : Int) + 1) / 2 = (m : Int) := by omega
      have m1 : l < m := by omega
      have m2 : m ≤ h := by omega
      have m3 : (m : Int) < 4294967296 := by omega
      have hlt2 : (l : Int) < (h : Int) := by omega
      clear hm
      have C1 := Lib.hid (ref_times B d m ys (by omega) hly wr (RY.out.below HB.out))
      go_wp2_with fail
      refine C1.out.mono ?_
      rintro e w1 ⟨v, rfl, hv, hb⟩
      obtain ⟨A1, c1, rfl, r1⟩ := hv.raw
      have hb1 := belowTo HB.out hb
      have C2 := Lib.hid (ref_cmp_any A1 A c1 c (natL (val ys * m)) xs (canon_natL _) HC.out w1 r1 (RX.out.below hb1))
      have HB1 := Lib.hid hb1
      have hz : val ys * m ≤ val xs ↔ m ≤ q := by rw [HQ.out, Nat.le_div_iff_mul_le HY.out, Nat.mul_comm]
      have HZ := Lib.hid hz
      clear C1 hv r1 hb hb1 hz
      go_wp2_with fail
      refine C2.out.mono ?_
      rintro e w2 ⟨rfl, hb2⟩
      have HB2 := Lib.hid (belowTo HB1.out hb2)
      obtain ⟨z, hze⟩ : ∃ z, z = cmpv (val (natL (val ys * m))) (val xs) := ⟨_, rfl⟩
      rw [← hze]
      have hz2 : m ≤ q ↔ z ≤ 0 := by
        rw [← HZ.out, hze, val_natL]
        unfold cmpv
        split <;> (try split) <;> omega
      clear hze hb2 C2 HB1
      by_cases hmq : m ≤ q
      · have hd : decide (z ≤ 0) = true := by simp; omega
        clear hz2
        go_wp2_with fail
        go_roundw
        case rel => exact ⟨m, h, rfl, rfl, hmq, h2, h3, HB2⟩
        case measure => simp [intOf]; omega
      · have hd : decide (z ≤ 0) = false := by simp; omega
        have hm1 : (m : Int) - 1 = ((m - 1 : Nat) : Int) := by omega
        clear hz2
        go_wp2_with fail
        go_roundw
        case rel => exact ⟨l, m - 1, rfl, rfl, h1, by omega, by omega, HB2⟩
        case measure => simp [intOf]; omega
    · obtain rfl : l = q := by omega
      have hge : (h : Int) ≤ (l : Int) := by omega
      go_wp2_with fail
      go_ret
      exact ⟨rfl, HB.out⟩

set_option maxRecDepth 100000 in
set_option maxHeartbeats 1000000 in
theorem ref_half (A : Option Addr) (c : Nat) (xs : List Nat) (hl : xs.length ≤ 1073741824) (w : World) (h : Raw w A c xs) :
    Calls Tryz.prog 210 #[.slice A xs.length c] w (RetN w.heap.size w (val xs / 2)) := by
  have C1 := Lib.hid (ref_short A c 2 xs (by omega) (by omega) hl w h)
  clear h
  go_enter Tryz.func210, Tryz.ntmps210
  go_wp2_with fail
  refine C1.out.mono ?_
  rintro e w1 ⟨v, rfl, hv, hb⟩
  have HV := Lib.hid hv
  have HB := Lib.hid hb
  clear hv hb C1
  go_wp2_with fail
  go_ret
  exact ⟨_, rfl, HV.out, HB.out⟩

theorem val_even {xs : List Nat} (h : 0 < xs.length) : val xs % 2 = xs[0] % 2 := by
  cases xs with
  | nil => simp at h
  | cons x xs => simp only [val, List.getElem_cons_zero]; omega
set_option maxRecDepth 100000 in
set_option maxHeartbeats 1000000 in
theorem ref_even (A : Option Addr) (c : Nat) (xs : List Nat) (h0 : 0 < xs.length) (w : World) (h : Raw w A c xs) (b : Bool) (hb : b = (val xs % 2 == 0)) :
    Calls Tryz.prog 233 #[.slice A xs.length c] w fun e w' => e = .returned (.bool b) ∧ w = w' := by
  obtain ⟨ad, rfl, hbl, hx⟩ := h.reads.get h0
  have hbx := limbs_get h.limbs h0
  rw [val_even h0] at hb
  have HB := Lib.hid hb
  generalize xs[0] = x at hx hbx HB
  have hi : (0 : Int) < (xs.length : Int) := by omega
  simp [Addr.add] at hx
  clear h hb hbl
  go_enter Tryz.func233, Tryz.ntmps233
  go_wp2_with fail
  go_ret
  refine ⟨?_, rfl⟩
  have e : ((x : Int) % 2 == 0) = b := by rw [HB.out, Bool.eq_iff_iff]; simp; omega
  rw [e]; rfl
end Go.Proofs.YtadmoheohmbieaaGreatDoor

/- divide of the references: long division, limb by limb. -/
namespace Go.Proofs.YtadmoheohmbieaaGreatDoor
open Go.RowKit

/-- Two lists of limbs handed back. -/
def RetNN (base : Nat) (w : World) (n1 n2 : Nat) (e : Ending) (w' : World) : Prop := ∃ v1 v2, e = .returned (.tuple #[v1, v2]) ∧ OwnN w' base v1 n1 ∧ OwnN w' base v2 n2 ∧ Below w.heap.size w w'

theorem below_append {w w' : World} {o : Obj} (h : (w.alloc o).grownBy w' none) : Below w.heap.size w w' :=
  ((Below.refl w.heap.size w).alloc (Nat.le_refl _) o).grown h (by simp) (fun _ hk => by cases hk)
theorem own_setFar {w : World} {base : Nat} {e : TypeId} {size n g k : Nat} {v : Value} {xs : List Value} (h : w.ownsRow base e size v n xs) (hg : g < base) (u : Value) : (w.setCell ⟨g, k, none⟩ u).ownsRow base e size v n xs := by
  refine ⟨h.1, ?_⟩
  rcases h.2 with h2 | ⟨b, cap, cur, h1, h2, h3, h4⟩
  · exact .inl h2
  · exact .inr ⟨b, cap, cur, h1, h2, (Blk.far (t := e) h3 (p := ⟨g, k, none⟩) (show b ≠ g by omega) u), h4⟩
theorem OwnN.far {w : World} {base n g k : Nat} {v : Value} (h : OwnN w base v n) (hg : g < base) (u : Value) : OwnN (w.setCell ⟨g, k, none⟩ u) base v n := by
  obtain ⟨A, c, h1, h2, h3, h4⟩ := h.form
  exact ⟨A, c, h1, h2, h3, own_setFar h4 hg u⟩

/-- While the references divide: what is done from the k-th limb on. -/
structure RDiv (w wr : World) (g : Nat) (xs ys : List Nat) (v : Value) (k R : Nat) (zs : List Nat) : Prop where
  len : zs.length = xs.length
  limbs : Limbs zs
  row : Row wr g zs
  low : Below w.heap.size w wr
  own : OwnN wr (g + 1) v R
  eq : val (zs.drop k) * val ys + R = val (xs.drop k)
  lt : R < val ys
  nought : ∀ j, j < k → at0 zs j = 0
theorem RDiv.skip {w wr wr' : World} {g : Nat} {xs ys : List Nat} {v v' : Value} {k R : Nat} {zs : List Nat} (h : RDiv w wr g xs ys v (k + 1) R zs) (hk : k < xs.length) (hrow : Row wr' g zs) (hlow : Below w.heap.size w wr') (hown : OwnN wr' (g + 1) v' (xs[k] + 4294967296 * R)) (hlt : xs[k] + 4294967296 * R < val ys) :
    RDiv w wr' g xs ys v' k (xs[k] + 4294967296 * R) zs := by
  have hk2 : k < zs.length := by rw [h.len]; exact hk
  have h0 : zs[k] = 0 := by rw [← at0_lt hk2]; exact h.nought k (Nat.lt_succ_self _)
  refine ⟨h.len, h.limbs, hrow, hlow, hown, ?_, hlt, fun j hj => h.nought j (by omega)⟩
  rw [val_drop_more hk2, val_drop_more hk, h0, ← h.eq, Nat.zero_add, Nat.mul_add, Nat.mul_assoc]
  omega
theorem RDiv.take {w wr wr' : World} {g : Nat} {xs ys : List Nat} {v v' : Value} {k R q : Nat} {zs : List Nat} (h : RDiv w wr g xs ys v (k + 1) R zs) (hk : k < xs.length) (hq : q = (xs[k] + 4294967296 * R) / val ys) (hq2 : q < 4294967296) (hrow : Row wr' g (zs.set k q)) (hlow : Below w.heap.size w wr') (hown : OwnN wr' (g + 1) v' (xs[k] + 4294967296 * R - val ys * q)) :
    RDiv w wr' g xs ys v' k (xs[k] + 4294967296 * R - val ys * q) (zs.set k q) := by
  have hk2 : k < zs.length := by rw [h.len]; exact hk
  have hY : 0 < val ys := by have := h.lt; omega
  have hd := Nat.div_add_mod (xs[k] + 4294967296 * R) (val ys)
  have hm := Nat.mod_lt (xs[k] + 4294967296 * R) hY
  rw [← hq] at hd
  refine ⟨by rw [List.length_set]; exact h.len, limbs_set h.limbs hq2, hrow, hlow, hown, ?_, by omega, fun j hj => ?_⟩
  · rw [val_drop_set hk2, val_drop_more hk, ← h.eq, Nat.add_mul, Nat.mul_assoc 4294967296, Nat.mul_add, Nat.mul_comm q]
    omega
  · rw [at0_set_ne (by omega)]; exact h.nought j (by omega)
theorem RDiv.stop {w wr : World} {g : Nat} {xs ys : List Nat} {v : Value} {R : Nat} {zs : List Nat} (h : RDiv w wr g xs ys v 0 R zs) : val zs = val xs / val ys ∧ R = val xs % val ys := by
  have e := h.eq
  have hl := h.lt
  simp only [List.drop_zero] at e
  have hY : 0 < val ys := by omega
  rw [← e]
  constructor
  · rw [Nat.add_comm, Nat.add_mul_div_right _ _ hY, Nat.div_eq_of_lt hl, Nat.zero_add]
  · rw [Nat.mul_add_mod_self_right, Nat.mod_eq_of_lt hl]

theorem fit_lt {x R Y : Nat} (hx : x < 4294967296) (hR : R < Y) : (x + 4294967296 * R) / Y < 4294967296 := by
  rw [Nat.div_lt_iff_lt_mul (by omega)]
  have := Nat.mul_le_mul_left 4294967296 (show R + 1 ≤ Y from hR)
  omega

set_option maxRecDepth 100000 in
set_option maxHeartbeats 1000000 in
theorem ref_divide_one (A B : Option Addr) (c d : Nat) (xs ys : List Nat) (hcy : Canon ys) (hyl : ys.length = 1) (hl : xs.length ≤ 1073741824) (w : World) (h : Raw w A c xs) (g : Raw w B d ys) :
    Calls Tryz.prog 231 #[.slice A xs.length c, .slice B ys.length d] w (RetNN w.heap.size w (val xs / val ys) (val xs % val ys)) := by
  have h0 : ys[0] ≠ 0 := hcy _ (getLast_get hyl)
  have hyv : val ys = ys[0] := by
    match ys, hyl with
    | [y], _ => simp [val]
  obtain ⟨ad, rfl, hbl, hy⟩ := g.reads.get (k := 0) (by omega)
  have hby := limbs_get g.limbs (k := 0) (by omega)
  rw [hyv]
  generalize ys[0] = y at h0 hy hby
  simp [Addr.add] at hy
  have C1 := Lib.hid (ref_short A c y xs (by omega) hby hl w h)
  have hrl : val xs % y < 4294967296 := Nat.lt_trans (Nat.mod_lt _ (by omega)) hby
  generalize val xs % y = r at hrl C1
  rw [hyl]
  clear h g hyv hyl hcy h0
  go_enter Tryz.func231, Tryz.ntmps231
  go_wp2_with fail
  refine C1.out.mono ?_
  rintro e w1 ⟨v, rfl, hv, hb⟩
  have hr : Row (w1.alloc (.cells #[.int .u32 r] 89)) w1.heap.size [r] := ⟨Blk.new w1 _ _⟩
  have hl2 : Limbs [r] := by intro x hx; simp at hx; omega
  have hv2 : val [r] = r := by simp [val]
  have C2 := Lib.hid (ref_trim (some ⟨w1.heap.size, 0, none⟩) 1 [r] hl2 (by simp) (by omega) _ (w1.alloc (.cells #[.int .u32 r] 89)) hr.reads)
  have HO := Lib.hid (OwnN.of_ownL (by have := hr.ownL_cut (base := w.heap.size) hb.size (by simp) hl2; rwa [hv2] at this))
  rw [hv2] at C2
  have HV := Lib.hid (hv.below ((Below.refl w1.heap.size w1).alloc (Nat.le_refl _) (.cells #[.int .u32 r] 89)))
  have HB := Lib.hid (hb.alloc hb.size (.cells #[.int .u32 r] 89))
  clear hr hl2 hv2 hv hb C1 hy hbl
  go_wp2_with fail
  refine C2.out.mono ?_
  rintro e w2 ⟨rfl, rfl⟩
  go_wp2_with fail
  go_ret2
  exact ⟨_, _, rfl, HV.out, HO.out, HB.out⟩

set_option maxRecDepth 100000 in
set_option maxHeartbeats 4000000 in
theorem ref_divide_many (A B : Option Addr) (c d : Nat) (xs ys : List Nat) (hcy : Canon ys) (hyl : 2 ≤ ys.length) (hlx : xs.length ≤ 536870000) (hly : ys.length ≤ 536870000) (w : World) (h : Raw w A c xs) (g : Raw w B d ys) :
    Calls Tryz.prog 231 #[.slice A xs.length c, .slice B ys.length d] w (RetNN w.heap.size w (val xs / val ys) (val xs % val ys)) := by
  have HX := Lib.hid h
  have HY := Lib.hid g
  have HC := Lib.hid hcy
  have hc := h.cap
  have hm := h.most
  have hY : 0 < val ys := by
    rcases Nat.eq_zero_or_pos (val ys) with h0 | h0
    · have e := natL_val g.limbs hcy
      rw [h0] at e
      rw [← e] at hyl
      simp [natL_zero] at hyl
    · exact h0
  have hlen1 : ((ys.length : Int) == 1) = false := by simp; omega
  obtain ⟨i0, hi, hz0, hz1, hz2⟩ := info_parts limbInfo
  have hmk : ∀ W : World, (Instr.makeSlice 22 (.int .i64 (xs.length : Int)) (.int .i64 (xs.length : Int))).run Tryz.prog W = .ok (.slice (some ⟨W.heap.size, 0, none⟩) xs.length xs.length) (W.alloc (.cells (madeCells #[.int .u32 0] xs.length) 89)) := fun W => by
    have h := run_make_rowN (P := Tryz.prog) 22 89 i0 _ Tryz.underlying22 hi hz0 .i64 .i64 xs.length xs.length (by omega) (by rw [hz2]; omega) (by omega) W
    rw [hz1, Nat.mul_one] at h
    exact h
  have H0 := Lib.hid (⟨0, _, by simp, limbs_noughts _, Row.made w _, (Below.refl _ _).alloc (Nat.le_refl _) _, OwnN.nil, by rw [List.drop_of_length_le (by simp), List.drop_length]; simp [val], hY, fun j _ => at0_noughts _ _⟩ : ∃ R zs, RDiv w (w.alloc (.cells (madeCells #[.int .u32 0] xs.length) 89)) w.heap.size xs ys (.slice none 0 0) xs.length R zs)
  have HP := Lib.hid hY
  clear h g hcy hY
  go_enter Tryz.func231, Tryz.ntmps231
  go_wp2_with fail
  clear hmk
  go_loopw [9, 10, 11, 12] (fun v9 v10 v11 v12 wr => ∃ k : Nat, ∃ i : Int, v10 = .int .i64 i ∧ i = (k : Int) - 1 ∧ k ≤ xs.length ∧ Hid (∃ R zs, RDiv w wr w.heap.size xs ys v9 k R zs)) (fun _ v10 _ _ _ => (intOf v10 + 1).toNat)
  case atStart => exact ⟨xs.length, _, rfl, by omega, Nat.le_refl _, H0⟩
  case round =>
    obtain ⟨k, i, rfl, hik, hk, HR⟩ := hrel
    clear H0
    obtain ⟨R, zs, hs⟩ := HR.out
    have HS := Lib.hid hs
    clear HR hs
    cases k with
    | zero =>
      obtain rfl : i = -1 := by omega
      clear hik
      have htrim := fun V (e : V = wr) => ref_trim (some ⟨w.heap.size, 0, none⟩) zs.length zs HS.out.limbs (Nat.le_refl _) (by rw [HS.out.len]; omega) V.heap.size V (e ▸ HS.out.row.reads)
      have hown := OwnN.of_ownL (HS.out.row.ownL_cut (base := w.heap.size) (Nat.le_refl _) (by rw [HS.out.len]; omega) HS.out.limbs)
      rw [HS.out.len] at htrim hown
      have C := Lib.hid (htrim wr rfl)
      have HO := Lib.hid hown
      have HV := Lib.hid HS.out.stop
      have HO2 := Lib.hid (HS.out.own.base (b' := w.heap.size) (by omega))
      have HB := Lib.hid HS.out.low
      clear hown htrim HS HX HY
      go_wp2_with (first | (go_at_call 162; with_reducible refine C.out.mono ?_; rintro e w' ⟨rfl, rfl⟩))
      go_ret2
      exact ⟨_, _, rfl, by rw [← HV.out.1]; exact HO.out, by rw [← HV.out.2]; exact HO2.out, HB.out⟩
    | succ j =>
      obtain rfl : i = (j : Int) := by omega
      clear hik
      have a0 : (0 : Int) ≤ (j : Int) := by omega
      have a1 : (j : Int) < (xs.length : Int) := by omega
      have hj : j < xs.length := by omega
      obtain ⟨ad, rfl, hbl, hxc⟩ := (HX.out.below HS.out.low).reads.get hj
      have hx := limbs_get HX.out.limbs hj
      obtain ⟨x, hxe⟩ : ∃ x, xs[j] = x := ⟨_, rfl⟩
      rw [hxe] at hxc hx
      have HXE := Lib.hid hxe
      have hlim := HX.out.below HS.out.low
      obtain ⟨A9, c9, rfl, r9⟩ := HS.out.own.raw
      have hR9 : (natL R).length ≤ ys.length := natL_length_le.2 (Nat.lt_trans HS.out.lt (val_lt HY.out.limbs))
      have hl0 := HS.out.low.size
      have hrl := HS.out.row.lt
      clear hxe hlim hbl
      go_wp2_with (first
        | (at_builtin; refine wpList_append_any _ rfl (.tmp 38) (.tmp 43) _ rfl (w.heap.size + 1) 89 i0 _ 1 4 Tryz.underlying22 hi hz0 hz1 hz2 rfl (by omega) _ 0 [] rfl (World.ownsRow_nil _ _ _ _) _ (some ⟨wr.heap.size, 0, none⟩) 1 1 [.int .u32 (x : Int)] rfl (Reads.new1 wr _ 1 _ rfl) (by simp [Value.oneCell']) (by unfold maxLen; omega) (by omega) (by simp; omega) ?_; intro v1 w1 ho1 hg1 hat1)
        | (at_builtin; refine wpList_append_any _ rfl (.tmp 45) (.tmp 46) _ rfl (w.heap.size + 1) 89 i0 _ 1 4 Tryz.underlying22 hi hz0 hz1 hz2 rfl (by omega) _ (0 + 1) _ rfl ho1 _ A9 (natL R).length c9 (cellsU (natL R)) rfl (r9.reads.below (below_append hg1)) (cellsU_one _) (by unfold maxLen; omega) (by omega) (by have := hg1.size; simp at this; omega) ?_; intro v2 w2 ho2 hg2 hat2))
      have hrow2 : Row w2 w.heap.size zs := by
        have h1 : Row w1 w.heap.size zs := HS.out.row.below (below_append hg1)
        refine ⟨h1.blk.stays hg2 (fun e => ?_)⟩
        have := (ho1.lt w.heap.size e.symm).1
        omega
      have hlow2 : Below w.heap.size w w2 := by
        refine (belowTo HS.out.low (below_append hg1)).grown hg2 (by have := hg1.size; simp at this; omega) (fun k hk => ?_)
        have := (ho1.lt k hk).1
        omega
      have e2 : [] ++ [Value.int .u32 (x : Int)] ++ cellsU (natL R) = cellsU (x :: natL R) := by simp [cellsU]
      rw [e2] at ho2
      have hl2 : Limbs (x :: natL R) := limbs_cons.2 ⟨hx, limbs_natL _⟩
      have hlen2 : (x :: natL R).length = 0 + 1 + (natL R).length := by simp; omega
      rw [← hlen2] at ho2
      have hval2 : val (x :: natL R) = x + 4294967296 * R := by simp only [val, val_natL]
      obtain ⟨A2, c2, he2, hz2', hz3', hz4'⟩ := (OwnX.of_own hl2 ho2).form
      have C1 := ref_trim A2 c2 (x :: natL R) hl2 hz2' hz3' w2.heap.size w2 (Reads.of_own hz4')
      have hown2 := OwnN.of_ownL (OwnL.cut hl2 hz2' hz3' hz4' (Nat.le_refl _))
      rw [hval2] at hown2 C1
      rw [← he2] at C1
      obtain ⟨R1, hR1⟩ : ∃ R1, R1 = x + 4294967296 * R := ⟨_, rfl⟩
      rw [← hR1] at hown2 C1
      have hlt1 := HS.out.lt
      have hR1n : (natL R1).length ≤ 536870002 := by
        have h1 := natL_val_le hl2
        rw [hval2, ← hR1, hlen2] at h1
        omega
      have hq0 : R1 / val ys < 4294967296 := by rw [hR1]; exact fit_lt hx hlt1
      have HR1 := Lib.hid hR1
      have H1 := Lib.hid C1
      have HO2 := Lib.hid hown2
      have HW2 := Lib.hid hrow2
      have HL2 := Lib.hid hlow2
      have hls := hlow2.size
      have hrs := hrow2.lt
      clear C1 hown2 hR1 hlt1 hval2 hl2 hlen2 hz2' hz3' hz4' he2 e2 ho1 hg1 hat1 ho2 hg2 hat2 hrow2 hlow2 r9 hxc hl0 hrl
      refine H1.out.mono ?_
      rintro e w3 ⟨rfl, rfl⟩
      have C2 := Lib.hid (ref_cmp_any A2 B c2 d (natL R1) ys (canon_natL _) HC.out w2 HO2.out.raw_ (HY.out.below HL2.out))
      clear H1
      go_wp2_with fail
      refine C2.out.mono ?_
      rintro e w3 ⟨rfl, hb3⟩
      have HO3 := Lib.hid (HO2.out.below hb3)
      have HW3 := Lib.hid (HW2.out.below hb3)
      have HL3 := Lib.hid (belowTo HL2.out hb3)
      have hls3 := hb3.size
      obtain ⟨z, hze⟩ : ∃ z, z = cmpv (val (natL R1)) (val ys) := ⟨_, rfl⟩
      rw [← hze]
      have hz2 : R1 < val ys ↔ z < 0 := by
        rw [hze, val_natL]
        unfold cmpv
        split <;> (try split) <;> omega
      clear hze hb3 C2 HL2 HO2 HW2
      by_cases hcmp : R1 < val ys
      · have hd : decide (z < 0) = true := by simp; omega
        have HD := Lib.hid (show ∃ R zs, RDiv w w3 w.heap.size xs ys (.slice A2 (natL R1).length c2) j R zs from by
          refine ⟨_, zs, HS.out.skip hj HW3.out HL3.out (by rw [HXE.out, ← HR1.out]; exact HO3.out) (by rw [HXE.out, ← HR1.out]; exact hcmp)⟩)
        clear hz2 HO3 HW3 HL3 HS HX HY hcmp
        go_wp2_with fail
        go_roundw
        case rel => exact ⟨j, _, rfl, by omega, by omega, HD⟩
        case measure => simp [intOf]
      · have hd : decide (z < 0) = false := by simp; omega
        have C3 := ref_fitting A2 B c2 d (natL R1) ys (canon_natL _) (by omega) HP.out (by rw [val_natL]; exact hq0) w3 HO3.out.raw_ (HY.out.below HL3.out)
        rw [val_natL] at C3
        obtain ⟨q, hqe⟩ : ∃ q, q = R1 / val ys := ⟨_, rfl⟩
        rw [← hqe] at C3 hq0
        have HQ := Lib.hid hqe
        have H3 := Lib.hid C3
        clear hz2 C3 hqe hcmp
        go_wp2_with fail
        refine H3.out.mono ?_
        rintro e w4 ⟨rfl, hb4⟩
        have hj2 : j < zs.length := by rw [HS.out.len]; exact hj
        have HO4 := Lib.hid ((HO3.out.below hb4).far (k := j) (Nat.lt_succ_self _) (.int .u32 (q : Int)))
        have row4 := HW3.out.below hb4
        have HW4 := Lib.hid (row4.set j q)
        have low4 := belowTo HL3.out hb4
        have HL4 := Lib.hid (low4.setCell (p := ⟨w.heap.size, j, none⟩) (Nat.le_refl _) (.int .u32 (q : Int)))
        have fz := row4.frozen j
        have hcell := row4.cell hj2
        generalize zs[j] = old at hcell
        have hls4 := hb4.size
        have C4 := Lib.hid (ref_times B d q ys hq0 (by omega) (w4.setCell ⟨w.heap.size, j, none⟩ (.int .u32 (q : Int))) (HY.out.below HL4.out))
        clear H3 row4 low4 hb4 HO3 HW3 HL3
        go_wp2_with fail
        refine C4.out.mono ?_
        rintro e w5 ⟨v5, rfl, hv5, hb5⟩
        have HO5 := Lib.hid (HO4.out.below hb5)
        have HW5 := Lib.hid (HW4.out.below hb5)
        have HL5 := Lib.hid (belowTo HL4.out hb5)
        have hls5 := hb5.size
        simp [World.setCell] at hls5
        obtain ⟨A5, c5, rfl, r5⟩ := hv5.raw
        have hle : val ys * q ≤ R1 := by rw [HQ.out]; exact Nat.mul_div_le _ _
        have C5 := ref_subN A2 A5 c2 c5 (natL R1) (natL (val ys * q)) (natL_mono hle) (by rw [val_natL, val_natL]; exact hle) (by omega) w5 HO5.out.raw_ r5
        rw [val_natL, val_natL] at C5
        have H5 := Lib.hid C5
        clear C4 HO4 HW4 HL4 hv5 hb5 r5 C5 fz hcell
        go_wp2_with fail
        refine H5.out.mono ?_
        rintro e w6 ⟨v6, rfl, hv6, hb6⟩
        have HD := Lib.hid (show ∃ R zs, RDiv w w6 w.heap.size xs ys v6 j R zs from by
          refine ⟨_, _, HS.out.take hj (q := q) (by rw [HXE.out, ← HR1.out]; exact HQ.out) hq0 (HW5.out.below hb6) (belowTo HL5.out hb6) (by rw [HXE.out, ← HR1.out]; exact hv6.base (by omega))⟩)
        clear H5 HO5 HW5 HL5 HS HX HY hv6 hb6 hle
        go_wp2_with fail
        go_roundw
        case rel => exact ⟨j, _, rfl, by omega, by omega, HD⟩
        case measure => simp [intOf]
end Go.Proofs.YtadmoheohmbieaaGreatDoor
