/- Several texts in one: Common, Answer, DivOps. -/
import Derived.Test.YtpcdiijmhllejaaDoorBk15
import Derived.Deep.LoopGhost
import Derived.Test.YtpcdiijmhllejaaDoorBk14
import Derived.Test.YtpcdiijmhllejaaDoorBk16
/- Common of package exact: the greatest number that goes into both. -/
namespace Go.Proofs.YtpcdiijmhllejaaDoor
open Go.RowKit

/-- While two numbers are held in two variables. -/
structure Held2 (w wr : World) (ba bb : Nat) (A1 : Option Addr) (c1 x : Nat) (A2 : Option Addr) (c2 y : Nat) : Prop where
  pa : Pair wr ba 24 (.bool false) (.slice A1 (natL x).length c1)
  pb : Pair wr bb 24 (.bool false) (.slice A2 (natL y).length c2)
  one : OwnN wr w.heap.size (.slice A1 (natL x).length c1) x
  two : OwnN wr w.heap.size (.slice A2 (natL y).length c2) y
  low : Below w.heap.size w wr
  la : w.heap.size + 3 ≤ ba
  lb : w.heap.size + 3 ≤ bb
  ne : ba ≠ bb
  res : Pair wr (w.heap.size + 2) 24 (.bool false) (.slice none 0 0)
theorem OwnN.drew {w : World} {base n : Nat} {v : Value} (h : OwnN w base v n) : OwnN w.drew base v n := h.below (Below.refl _ _).drew
theorem Held2.drew {w wr : World} {ba bb : Nat} {A1 A2 : Option Addr} {c1 x c2 y : Nat} (h : Held2 w wr ba bb A1 c1 x A2 c2 y) : Held2 w wr.drew ba bb A1 c1 x A2 c2 y :=
  ⟨h.pa.drew, h.pb.drew, h.one.drew, h.two.drew, h.low.drew, h.la, h.lb, h.ne, h.res.drew⟩

set_option maxRecDepth 100000 in
set_option maxHeartbeats 2000000 in
theorem exact_Common (n1 n2 : Bool) (A B : Option Addr) (c d : Nat) (xs ys : List Nat) (hlx : xs.length ≤ 536870912) (hly : ys.length ≤ 536870912) (w : World) (h : Raw w A c xs) (g : Raw w B d ys) :
    Calls Tryd.prog 28 #[.agg #[.bool n1, .slice A xs.length c], .agg #[.bool n2, .slice B ys.length d]] w (RetInt w.heap.size w ((Nat.gcd (val xs) (val ys) : Nat) : Int)) := by
  have px := ((Pair.new w 24 (.bool n1) (.slice A xs.length c)).alloc (.cells #[.bool n2, .slice B ys.length d] 24)).alloc (.cells #[.bool false, .slice none 0 0] 24)
  have py := (Pair.new (w.alloc (.cells #[.bool n1, .slice A xs.length c] 24)) 24 (.bool n2) (.slice B ys.length d)).alloc (.cells #[.bool false, .slice none 0 0] 24)
  have pr := Pair.new ((w.alloc (.cells #[.bool n1, .slice A xs.length c] 24)).alloc (.cells #[.bool n2, .slice B ys.length d] 24)) 24 (.bool false) (.slice none 0 0)
  have rx := (((h.alloc (.cells #[.bool n1, .slice A xs.length c] 24)).alloc (.cells #[.bool n2, .slice B ys.length d] 24)).alloc (.cells #[.bool false, .slice none 0 0] 24))
  have ry := (((g.alloc (.cells #[.bool n1, .slice A xs.length c] 24)).alloc (.cells #[.bool n2, .slice B ys.length d] 24)).alloc (.cells #[.bool false, .slice none 0 0] 24))
  have b0 := (((Below.refl w.heap.size w).alloc (Nat.le_refl _) (.cells #[.bool n1, .slice A xs.length c] 24)).alloc (by simp) (.cells #[.bool n2, .slice B ys.length d] 24)).alloc (by simp; omega) (.cells #[.bool false, .slice none 0 0] 24)
  simp only [World.size_alloc] at py pr
  have HLX := Lib.hid h.limbs
  have HLY := Lib.hid g.limbs
  clear h g
  go_enter Tryd.func28, Tryd.ntmps28
  go_wp2_with fail
  obtain ⟨W, E⟩ : ∃ W, W = ((w.alloc (.cells #[.bool n1, .slice A xs.length c] 24)).alloc (.cells #[.bool n2, .slice B ys.length d] 24)).alloc (.cells #[.bool false, .slice none 0 0] 24) := ⟨_, rfl⟩
  rw [← E] at px py pr b0 rx ry ⊢
  have hszW : w.heap.size + 3 ≤ W.heap.size := by rw [E]; simp
  clear E
  have PX := Lib.hid px
  have PY := Lib.hid py
  have PR := Lib.hid pr
  have B0 := Lib.hid b0
  have H1 := Lib.hid (fun (V : World) (hV : Below W.heap.size W V) => (exact_own false A c xs (by omega) V (rx.below hV)).mono (R' := RetInt w.heap.size V ((val xs : Nat) : Int)) (by rintro e w' ⟨v, rfl, hv, hb⟩; exact ⟨v, rfl, hv.base (by have := hV.size; omega), hb⟩))
  have H2 := Lib.hid (fun (V : World) (hV : Below W.heap.size W V) => (exact_own false B d ys (by omega) V (ry.below hV)).mono (R' := RetInt w.heap.size V ((val ys : Nat) : Int)) (by rintro e w' ⟨v, rfl, hv, hb⟩; exact ⟨v, rfl, hv.base (by have := hV.size; omega), hb⟩))
  obtain ⟨X, hX⟩ : ∃ X, X = val xs := ⟨_, rfl⟩
  obtain ⟨Y, hY⟩ : ∃ Y, Y = val ys := ⟨_, rfl⟩
  rw [← hX] at H1
  rw [← hY] at H2
  have HLx := Lib.hid (show (natL X).length ≤ 536870912 by rw [hX]; exact Nat.le_trans (natL_val_le HLX.out) hlx)
  have HLy := Lib.hid (show (natL Y).length ≤ 536870912 by rw [hY]; exact Nat.le_trans (natL_val_le HLY.out) hly)
  have HXY := Lib.hid (And.intro hX hY)
  clear px py pr rx ry b0 HLX HLY hX hY
  refine wp_region_free [.val (.pointer (some ⟨w.heap.size, 1, none⟩)) [], .val (.slice A xs.length c) [], .any false (fun u V => IntOwn V w.heap.size u (X : Int)) [],
      .val (.pointer (some ⟨w.heap.size + 1, 1, none⟩)) [], .val (.slice B ys.length d) [], .any false (fun u V => IntOwn V w.heap.size u (Y : Int)) [], .new 24 2, .new 24 2, .put 24 2 6 2 [], .put 24 2 7 5 []]
    W.heap.size W [24] (fun _ _ => False) _ mixedOrders2 (Nat.le_refl _) (Below.refl _ _) (KeptV.refl _ _ _) rfl (by kernel_rfl) (by kernel_rfl) (by kernel_rfl) (by kernel_rfl) (by kernel_rfl) (by kernel_rfl) (by kernel_rfl) (by kernel_rfl) rfl (by simp [oldsF]) ?_ ?_ ?_ ?_
  · simp only [StableF, and_true]
    exact ⟨fun u V V' h k => h.kept k (by decide), fun u V V' h k => h.kept k (by decide)⟩
  · simp only [OldsF]
  · simp [StepsF, DepF, freeAct, fill, pairs]
    repeat' (first | apply And.intro | (intro (u : Value)) | (intro (u : Nat)))
    all_goals try exact ⟨_, _, _, rfl, rfl, rfl, rfl, intInfo⟩
    all_goals try exact allocInt rfl
    all_goals first
    | (intro V hV hK
       obtain ⟨-, -, a1, -, -⟩ := (PX.out.below hV).facts
       obtain ⟨-, -, b1, -, -⟩ := (PY.out.below hV).facts
       have HV := Lib.hid hV
       clear hV
       go_simp
       first
       | exact Below.refl _ _
       | ((with_reducible refine (H1.out V HV.out).mono ?_); rintro e w' ⟨v, rfl, hv, hb⟩; exact ⟨hv, hb⟩)
       | ((with_reducible refine (H2.out V HV.out).mono ?_); rintro e w' ⟨v, rfl, hv, hb⟩; exact ⟨hv, hb⟩))
    | exact fun _ _ _ (h : IntOwn _ _ _ _) => h.cells
  · simp [EndF, FactsF, freeAct, fill, pairs]
    intro u v ba hba bb hbb V hV hK h1 h2 p1 p2 _ _ hne
    have hne2 : ba ≠ bb := by
      intro e
      subst e
      exact hne.new 6 7 rfl rfl (by decide) rfl
    obtain ⟨A1, c1, rfl, o1⟩ := h1.nat
    obtain ⟨A2, c2, rfl, o2⟩ := h2.nat
    have HH := Lib.hid (show Held2 w V ba bb A1 c1 X A2 c2 Y from ⟨⟨p1⟩, ⟨p2⟩, o1, o2, belowTo B0.out hV, by omega, by omega, hne2, PR.out.below hV⟩)
    clear h1 h2 p1 p2 hne hne2 o1 o2 hV hK hba hbb
    go_wp2_with fail
    go_loopg [] (Y) (fun k wr => ∃ A1 c1 x A2 c2, Hid (Held2 w wr ba bb A1 c1 x A2 c2 k ∧ Nat.gcd x k = Nat.gcd X Y ∧ (natL x).length ≤ 536870912 ∧ (natL k).length ≤ 536870912))
    case atStart => exact ⟨A1, c1, X, A2, c2, Lib.hid ⟨HH.out, rfl, HLx.out, HLy.out⟩⟩
    case round =>
      clear HH
      obtain ⟨A1, c1, x, A2, c2, HR⟩ := hrel
      obtain ⟨hh, hg, hl1, hl2⟩ := HR.out
      have HG := Lib.hid hg
      have HH := Lib.hid hh
      obtain ⟨l1, a0, a1, f0, f1⟩ := hh.pa.facts
      obtain ⟨l2, b0, b1, g0, g1⟩ := hh.pb.facts
      clear HR hh hg
      rcases Nat.eq_zero_or_pos gk with hk | hk
      · subst hk
        have hln : (natL 0).length = 0 := by simp [natL_zero]
        rw [hln] at b1
        have hone := HH.out.one
        have hlow := HH.out.low
        have hxg : x = Nat.gcd X Y := by rw [← HG.out, Nat.gcd_zero_right]
        have hres := HH.out.res
        obtain ⟨l3, q0, q1, r0, r1⟩ := hres.facts
        have HO := Lib.hid (hone.pair hres (.bool false) (.slice A1 (natL x).length c1))
        have HB := Lib.hid (below2 hlow (show w.heap.size ≤ w.heap.size + 2 by omega) (.bool false) (.slice A1 (natL x).length c1))
        have HQ := Lib.hid (hres.store (.bool false) (.slice A1 (natL x).length c1))
        have hfin : IntOwn ((wr.setCell ⟨w.heap.size + 2, 0, none⟩ (.bool false)).setCell ⟨w.heap.size + 2, 1, none⟩ (.slice A1 (natL x).length c1)) w.heap.size (.agg #[.bool false, .slice A1 (natL x).length c1]) ((Nat.gcd (val xs) (val ys) : Nat) : Int) := by
          rw [← HXY.out.1, ← HXY.out.2, ← hxg]; exact HO.out.int
        have HF := Lib.hid hfin
        clear hln hone hlow hxg hres HH HG hfin HO
        go_wp2_with fail
        obtain ⟨_, k0, k1, _, _⟩ := HQ.out.facts
        exact bodyPost_ret (by simp [results, Tryd.results28, go_sem, k0, k1]) rfl ⟨_, rfl, HF.out, HB.out⟩
      · have hlk : (0 : Int) < ((natL gk).length : Int) := by
          have : (natL gk).length ≠ 0 := fun h0 => by
            have := natL_eq_nil.1 (List.eq_nil_of_length_eq_zero h0)
            omega
          omega
        have hne : natL gk ≠ [] := fun h0 => by rw [h0] at hlk; simp at hlk
        have C1 := Lib.hid (exact_Divide false false A1 A2 c1 c2 (natL x) (natL gk) (canon_natL _) (canon_natL _) hne (by omega) (by omega) wr HH.out.one.raw_ HH.out.two.raw_)
        go_wp2_with fail
        refine C1.out.mono ?_
        rintro e w1 ⟨v1, v2, rfl, hI, hb⟩
        have hz : (ival false (natL x)).tmod (ival false (natL gk)) = ((x % gk : Nat) : Int) := by
          unfold ival
          simp only [val_natL, Bool.false_eq_true, if_false]
          rw [Int.ofNat_tmod]
        obtain ⟨b9, A9, k9, c9, rfl⟩ := hI.one.shape
        have hI2 := hI.two
        rw [hz] at hI2
        obtain ⟨A3, c3, rfl, o3⟩ := hI2.nat
        have HA := Lib.hid (HH.out.pa.below hb)
        have HBb := Lib.hid (HH.out.pb.below hb)
        have HRs := Lib.hid (HH.out.res.below hb)
        have HO2 := Lib.hid (HH.out.two.below hb)
        have HO3 := Lib.hid (o3.base (b' := w.heap.size) HH.out.low.size)
        have HLo := Lib.hid (belowTo HH.out.low hb)
        have hs1 := HA.out.size
        have hs2 := HBb.out.size
        clear hz hI hI2 o3 hb l1 a0 a1 f0 f1 l2 b0 b1 g0 g1 C1
        go_wp2_with fail
        obtain ⟨W2, E2⟩ : ∃ W2, W2 = (w1.alloc (.cells #[.bool b9, .slice A9 k9 c9] 24)).alloc (.cells #[.bool false, .slice A3 (natL (x % gk)).length c3] 24) := ⟨_, rfl⟩
        have hp8 := Pair.new (w1.alloc (.cells #[.bool b9, .slice A9 k9 c9] 24)) 24 (.bool false) (.slice A3 (natL (x % gk)).length c3)
        have hb2 := ((Below.refl w1.heap.size w1).alloc (Nat.le_refl _) (.cells #[.bool b9, .slice A9 k9 c9] 24)).alloc (by simp) (.cells #[.bool false, .slice A3 (natL (x % gk)).length c3] 24)
        rw [← E2] at hp8 hb2 ⊢
        simp only [World.size_alloc] at hp8
        clear E2
        have pa := HA.out.below hb2
        have pb := HBb.out.below hb2
        have o2 := HO2.out.below hb2
        have o3 := HO3.out.below hb2
        have hlw := HLo.out.size
        have hn8 : bb ≠ w1.heap.size + 1 := by omega
        have hn8a : ba ≠ w1.heap.size + 1 := by omega
        have ne := HH.out.ne
        have HN := Lib.hid (show Held2 w ((((W2.setCell ⟨ba, 0, none⟩ (.bool false)).setCell ⟨ba, 1, none⟩ (.slice A2 (natL gk).length c2)).setCell ⟨bb, 0, none⟩ (.bool false)).setCell ⟨bb, 1, none⟩ (.slice A3 (natL (x % gk)).length c3)) ba bb A2 c2 gk A3 c3 (x % gk) from
          ⟨(pa.store _ _).far ne _ _, (pb.far (Ne.symm ne) _ _).store _ _, (o2.pair pa _ _).pair (pb.far (Ne.symm ne) _ _) _ _, (o3.pair pa _ _).pair (pb.far (Ne.symm ne) _ _) _ _,
            below2 (below2 (belowTo HLo.out hb2) (by have := HH.out.la; omega) _ _) (by have := HH.out.lb; omega) _ _, HH.out.la, HH.out.lb, ne,
            (((HRs.out.below hb2).far (by have := HH.out.la; omega) _ _).far (by have := HH.out.lb; omega) _ _)⟩)
        have hgc : Nat.gcd gk (x % gk) = Nat.gcd X Y := by
          rw [← HG.out, Nat.gcd_comm x gk, Nat.gcd_rec gk x, Nat.gcd_comm]
        have hln : (natL (x % gk)).length ≤ 536870912 := Nat.le_trans (natL_mono (Nat.le_of_lt (Nat.mod_lt _ hk))) hl2
        have HGC := Lib.hid (And.intro hgc hln)
        have HM := Lib.hid (Nat.mod_lt x hk)
        obtain ⟨m1, a0, a1, f0, f1⟩ := pa.facts
        obtain ⟨m2, b0, b1, g0, g1⟩ := pb.facts
        obtain ⟨m3, d0, d1, -, -⟩ := hp8.facts
        clear pa pb hp8 o2 o3 hgc hln hb2 HA HBb HRs HO2 HO3 HLo HG HH hlw
        go_region
        all_goals (go_wp2_with fail)
        all_goals (go_roundg (x % gk))
        case measure => exact HM.out
        case rel => exact ⟨A2, c2, gk, A3, c3, Lib.hid ⟨HN.out.drew, HGC.out.1, hl2, HGC.out.2⟩⟩
end Go.Proofs.YtpcdiijmhllejaaDoor

/- told, Add, Sub, Mul of package whole and of the references. (Written by wip/exact/gentold.py.) -/
namespace Go.Proofs.YtpcdiijmhllejaaDoor
open Go.RowKit

theorem toldV_fits {z : Int} (h : (natL z.natAbs).length ≤ 2048) : toldV z = z := by unfold toldV; rw [if_pos h]
theorem toldE_fits {z : Int} (h : (natL z.natAbs).length ≤ 2048) : toldE z = 0 := by unfold toldE; rw [if_pos h]
theorem toldV_long {z : Int} (h : 2048 < (natL z.natAbs).length) : toldV z = 0 := by unfold toldV; rw [if_neg (by omega)]
theorem toldE_long {z : Int} (h : 2048 < (natL z.natAbs).length) : toldE z = 4 := by unfold toldE; rw [if_neg (by omega)]
theorem IntOwn.value {w : World} {base : Nat} {v : Value} {x : Int} (h : IntOwn w base v x) : ∃ A c, v = .agg #[.bool (decide (x < 0)), .slice A (natL x.natAbs).length c] ∧ (natL x.natAbs).length ≤ 9223372036854775807 := by
  obtain ⟨A, c, h1, h2, h3, _⟩ := h.form
  exact ⟨A, c, h1, by omega⟩

set_option maxRecDepth 100000 in
set_option maxHeartbeats 1000000 in
theorem whole_told_fits (b : Bool) (A : Option Addr) (n c : Nat) (hn : n ≤ 9223372036854775807) (hf : n ≤ 2048) (w : World) :
    Calls Tryd.prog 34 #[.agg #[.bool b, .slice A n c]] w fun e w' => e = .returned (.tuple #[.agg #[.bool b, .slice A n c], .int .i64 0]) ∧ Below w.heap.size w w' := by
  have pr := Pair.new (w.alloc (.cells #[.bool b, .slice A n c] 24)) 24 (.bool false) (.slice none 0 0)
  have px := (Pair.new w 24 (.bool b) (.slice A n c)).alloc (.cells #[.bool false, .slice none 0 0] 24)
  have b0 := ((Below.refl w.heap.size w).alloc (Nat.le_refl _) (.cells #[.bool b, .slice A n c] 24)).alloc (by simp) (.cells #[.bool false, .slice none 0 0] 24)
  simp only [World.size_alloc] at pr
  have C1 := fun (V : World) (g : Nat) (hg : V.heap.size = g) => exact_Long (some ⟨g, 0, none⟩) 1 [(b, A, n, c)] (by simp) (by simp; omega) (V.alloc (.cells #[.bool b, .slice A n c] 24)) (by subst hg; exact (Reads.new1 V 24 2 [.bool b, .slice A n c] rfl).more (by simp))
  simp only [List.any_cons, List.any_nil, Bool.or_false, List.length_singleton] at C1
  rw [decide_eq_false (show ¬ 2048 < n from by omega)] at C1
  have C := Lib.hid C1
  clear C1
  have PX := Lib.hid px
  have PR := Lib.hid pr
  have B0 := Lib.hid b0
  clear px pr b0
  go_enter Tryd.func34, Tryd.ntmps34
  go_wp2_with (go_at_call 49; with_reducible refine (C.out _ _ (by simp)).mono ?_; rintro e w' ⟨rfl, hb⟩; have px := (PX.out.alloc _).below hb; have pr := (PR.out.alloc _).below hb; have B1 := belowTo (B0.out.alloc B0.out.size _) hb; have hl0 := B0.out.size; obtain ⟨l1, x0, x1, f0, f1⟩ := px.facts; obtain ⟨l2, y0, y1, g0, g1⟩ := pr.facts)
  have hq := pr.store (.bool b) (.slice A n c)
  obtain ⟨_, k0, k1, _, _⟩ := hq.facts
  exact bodyPost_ret (by simp [results, Tryd.results34, go_sem, k0, k1]) rfl ⟨rfl, below2 B1 (by omega) _ _⟩

set_option maxRecDepth 100000 in
set_option maxHeartbeats 1000000 in
theorem whole_told_long (b : Bool) (A : Option Addr) (n c : Nat) (hn : n ≤ 9223372036854775807) (hf : 2048 < n) (w : World) :
    Calls Tryd.prog 34 #[.agg #[.bool b, .slice A n c]] w fun e w' => e = .returned (.tuple #[.agg #[.bool false, .slice none 0 0], .int .i64 4]) ∧ Below w.heap.size w w' := by
  have pr := Pair.new (w.alloc (.cells #[.bool b, .slice A n c] 24)) 24 (.bool false) (.slice none 0 0)
  have px := (Pair.new w 24 (.bool b) (.slice A n c)).alloc (.cells #[.bool false, .slice none 0 0] 24)
  have b0 := ((Below.refl w.heap.size w).alloc (Nat.le_refl _) (.cells #[.bool b, .slice A n c] 24)).alloc (by simp) (.cells #[.bool false, .slice none 0 0] 24)
  simp only [World.size_alloc] at pr
  have C1 := fun (V : World) (g : Nat) (hg : V.heap.size = g) => exact_Long (some ⟨g, 0, none⟩) 1 [(b, A, n, c)] (by simp) (by simp; omega) (V.alloc (.cells #[.bool b, .slice A n c] 24)) (by subst hg; exact (Reads.new1 V 24 2 [.bool b, .slice A n c] rfl).more (by simp))
  simp only [List.any_cons, List.any_nil, Bool.or_false, List.length_singleton] at C1
  rw [decide_eq_true (show 2048 < n from hf)] at C1
  have C := Lib.hid C1
  clear C1
  have PX := Lib.hid px
  have PR := Lib.hid pr
  have B0 := Lib.hid b0
  clear px pr b0
  go_enter Tryd.func34, Tryd.ntmps34
  go_wp2_with (go_at_call 49; with_reducible refine (C.out _ _ (by simp)).mono ?_; rintro e w' ⟨rfl, hb⟩; have px := (PX.out.alloc _).below hb; have pr := (PR.out.alloc _).below hb; have B1 := belowTo (B0.out.alloc B0.out.size _) hb; have hl0 := B0.out.size; obtain ⟨l1, x0, x1, f0, f1⟩ := px.facts; obtain ⟨l2, y0, y1, g0, g1⟩ := pr.facts)
  have hq := pr.store (.bool false) (.slice none 0 0)
  obtain ⟨_, k0, k1, _, _⟩ := hq.facts
  exact bodyPost_ret (by simp [results, Tryd.results34, go_sem, k0, k1]) rfl ⟨rfl, below2 B1 (by omega) _ _⟩

theorem whole_told (base : Nat) (v : Value) (z : Int) (w : World) (h : IntOwn w base v z) :
    Calls Tryd.prog 34 #[v] w (RetInt2 base w (toldV z) (toldE z)) := by
  obtain ⟨A, c, rfl, hn⟩ := h.value
  by_cases hf : (natL z.natAbs).length ≤ 2048
  · rw [toldV_fits hf, toldE_fits hf]
    refine (whole_told_fits _ A _ c hn hf w).mono ?_
    rintro e w' ⟨rfl, hb⟩
    exact ⟨_, rfl, h.below hb, hb⟩
  · rw [toldV_long (by omega), toldE_long (by omega)]
    refine (whole_told_long _ A _ c hn (by omega) w).mono ?_
    rintro e w' ⟨rfl, hb⟩
    exact ⟨_, rfl, IntOwn.nought _ _, hb⟩

set_option maxRecDepth 100000 in
set_option maxHeartbeats 1000000 in
theorem whole_Add_ok (n1 n2 : Bool) (A B : Option Addr) (c d : Nat) (xs ys : List Nat) (o1 : okI n1 xs = true) (o2 : okI n2 ys = true) (z : Int) (HZV : Hid (z = ival n1 xs + ival n2 ys)) (r k : Int) (HR : Hid (r = toldV z)) (HK : Hid (k = toldE z)) (w : World) (h : Raw w A c xs) (g : Raw w B d ys) :
    Calls Tryd.prog 24 #[.agg #[.bool n1, .slice A xs.length c], .agg #[.bool n2, .slice B ys.length d]] w (RetInt2 w.heap.size w r k) := by
  have C0 := fun (V : World) (h : Raw V A c xs) (g : Raw V B d ys) => whole_fine_any n1 n2 A B c d xs ys V h g
  have C1 := fun (V : World) (h : Raw V A c xs) (g : Raw V B d ys) => show Calls Tryd.prog 39 #[.agg #[.bool n1, .slice A xs.length c], .agg #[.bool n2, .slice B ys.length d]] V (RetInt V.heap.size V z) from by rw [HZV.out]; exact exact_Plus n1 n2 A B c d xs ys (okI_true.1 o1).2.1 (okI_true.1 o2).2.1 (by have := (okI_true.1 o1).1; omega) (by have := (okI_true.1 o2).1; omega) V h g
  have C2 := fun (V : World) (base : Nat) (v : Value) (hv : IntOwn V base v z) => show Calls Tryd.prog 34 #[v] V (RetInt2 base V r k) from by rw [HR.out, HK.out]; exact whole_told base v z V hv
  rw [o1, o2, Bool.and_self] at C0
  have H1 := Lib.hid C1
  have H2 := Lib.hid C2
  have H0 := Lib.hid C0
  clear C0 C1 C2 o1 o2
  have px := ((Pair.new w 24 (.bool n1) (.slice A xs.length c)).alloc (.cells #[.bool n2, .slice B ys.length d] 24)).alloc (.cells #[.bool false, .slice none 0 0] 24)
  have py := (Pair.new (w.alloc (.cells #[.bool n1, .slice A xs.length c] 24)) 24 (.bool n2) (.slice B ys.length d)).alloc (.cells #[.bool false, .slice none 0 0] 24)
  have pr := Pair.new ((w.alloc (.cells #[.bool n1, .slice A xs.length c] 24)).alloc (.cells #[.bool n2, .slice B ys.length d] 24)) 24 (.bool false) (.slice none 0 0)
  have rx := (((h.alloc (.cells #[.bool n1, .slice A xs.length c] 24)).alloc (.cells #[.bool n2, .slice B ys.length d] 24)).alloc (.cells #[.bool false, .slice none 0 0] 24))
  have ry := (((g.alloc (.cells #[.bool n1, .slice A xs.length c] 24)).alloc (.cells #[.bool n2, .slice B ys.length d] 24)).alloc (.cells #[.bool false, .slice none 0 0] 24))
  have b0 := (((Below.refl w.heap.size w).alloc (Nat.le_refl _) (.cells #[.bool n1, .slice A xs.length c] 24)).alloc (by simp) (.cells #[.bool n2, .slice B ys.length d] 24)).alloc (by simp; omega) (.cells #[.bool false, .slice none 0 0] 24)
  simp only [World.size_alloc] at py pr
  clear h g
  go_enter Tryd.func24, Tryd.ntmps24
  go_wp2_with fail
  obtain ⟨W, E⟩ : ∃ W, W = ((w.alloc (.cells #[.bool n1, .slice A xs.length c] 24)).alloc (.cells #[.bool n2, .slice B ys.length d] 24)).alloc (.cells #[.bool false, .slice none 0 0] 24) := ⟨_, rfl⟩
  rw [← E] at px py pr b0 rx ry ⊢
  clear E
  have PX := Lib.hid px
  have PY := Lib.hid py
  have PR := Lib.hid pr
  have B0 := Lib.hid b0
  have RX := Lib.hid rx
  have RY := Lib.hid ry
  have hlr := pr.blk.lt
  have hsz := b0.size
  obtain ⟨l1, x0, x1, -, -⟩ := px.facts
  obtain ⟨l2, y0, y1, -, -⟩ := py.facts
  clear px py pr rx ry b0
  go_wp2_with (first
    | (go_at_call 27; with_reducible refine (H0.out _ RX.out RY.out).mono ?_; rintro e w1 ⟨rfl, hb⟩; have rx := RX.out.below hb; have ry := RY.out.below hb; obtain ⟨l1, x0, x1, -, -⟩ := (PX.out.below hb).facts; obtain ⟨l2, y0, y1, -, -⟩ := (PY.out.below hb).facts)
    | (go_at_call 39; refine (H1.out _ rx ry).mono ?_; rintro e w2 ⟨v, rfl, hI, hb2⟩)
    | (go_at_call 34; refine (H2.out _ _ v hI).mono ?_; rintro e w3 ⟨v3, rfl, hI3, hb3⟩; obtain ⟨A1, c1, rfl, -⟩ := hI3.value; have pr := ((PR.out.below hb).below hb2).below hb3; obtain ⟨l3, z0, z1, f0, f1⟩ := pr.facts))
  have hq := pr.store (.bool (decide (r < 0))) (.slice A1 (natL r.natAbs).length c1)
  obtain ⟨_, k0, k1, _, _⟩ := hq.facts
  have hs1 := hb.size
  exact bodyPost_ret (by simp [results, Tryd.results24, go_sem, k0, k1]) rfl ⟨_, rfl, (hI3.pair (by omega)).base (by omega), below2 (belowTo (belowTo (belowTo B0.out hb) hb2) hb3) (by omega) _ _⟩

set_option maxRecDepth 100000 in
set_option maxHeartbeats 1000000 in
theorem whole_Add_bad (n1 n2 : Bool) (A B : Option Addr) (c d : Nat) (xs ys : List Nat) (o : (okI n1 xs && okI n2 ys) = false) (w : World) (h : Raw w A c xs) (g : Raw w B d ys) :
    Calls Tryd.prog 24 #[.agg #[.bool n1, .slice A xs.length c], .agg #[.bool n2, .slice B ys.length d]] w (RetInt2 w.heap.size w 0 1) := by
  have C0 := fun (V : World) (h : Raw V A c xs) (g : Raw V B d ys) => whole_fine_any n1 n2 A B c d xs ys V h g
  rw [o] at C0
  have H0 := Lib.hid C0
  clear C0 o
  have px := ((Pair.new w 24 (.bool n1) (.slice A xs.length c)).alloc (.cells #[.bool n2, .slice B ys.length d] 24)).alloc (.cells #[.bool false, .slice none 0 0] 24)
  have py := (Pair.new (w.alloc (.cells #[.bool n1, .slice A xs.length c] 24)) 24 (.bool n2) (.slice B ys.length d)).alloc (.cells #[.bool false, .slice none 0 0] 24)
  have pr := Pair.new ((w.alloc (.cells #[.bool n1, .slice A xs.length c] 24)).alloc (.cells #[.bool n2, .slice B ys.length d] 24)) 24 (.bool false) (.slice none 0 0)
  have rx := (((h.alloc (.cells #[.bool n1, .slice A xs.length c] 24)).alloc (.cells #[.bool n2, .slice B ys.length d] 24)).alloc (.cells #[.bool false, .slice none 0 0] 24))
  have ry := (((g.alloc (.cells #[.bool n1, .slice A xs.length c] 24)).alloc (.cells #[.bool n2, .slice B ys.length d] 24)).alloc (.cells #[.bool false, .slice none 0 0] 24))
  have b0 := (((Below.refl w.heap.size w).alloc (Nat.le_refl _) (.cells #[.bool n1, .slice A xs.length c] 24)).alloc (by simp) (.cells #[.bool n2, .slice B ys.length d] 24)).alloc (by simp; omega) (.cells #[.bool false, .slice none 0 0] 24)
  simp only [World.size_alloc] at py pr
  clear h g
  go_enter Tryd.func24, Tryd.ntmps24
  go_wp2_with fail
  obtain ⟨W, E⟩ : ∃ W, W = ((w.alloc (.cells #[.bool n1, .slice A xs.length c] 24)).alloc (.cells #[.bool n2, .slice B ys.length d] 24)).alloc (.cells #[.bool false, .slice none 0 0] 24) := ⟨_, rfl⟩
  rw [← E] at px py pr b0 rx ry ⊢
  clear E
  have PX := Lib.hid px
  have PY := Lib.hid py
  have PR := Lib.hid pr
  have B0 := Lib.hid b0
  have RX := Lib.hid rx
  have RY := Lib.hid ry
  have hlr := pr.blk.lt
  have hsz := b0.size
  obtain ⟨l1, x0, x1, -, -⟩ := px.facts
  obtain ⟨l2, y0, y1, -, -⟩ := py.facts
  clear px py pr rx ry b0
  go_wp2_with (first | (go_at_call 27; with_reducible refine (H0.out _ RX.out RY.out).mono ?_; rintro e w1 ⟨rfl, hb⟩; have pr := PR.out.below hb; obtain ⟨l3, z0, z1, f0, f1⟩ := pr.facts))
  have hq := pr.store (.bool false) (.slice none 0 0)
  obtain ⟨_, k0, k1, _, _⟩ := hq.facts
  exact bodyPost_ret (by simp [results, Tryd.results24, go_sem, k0, k1]) rfl ⟨_, rfl, IntOwn.nought _ _, below2 (belowTo B0.out hb) (by omega) _ _⟩

theorem whole_Add (n1 n2 : Bool) (A B : Option Addr) (c d : Nat) (xs ys : List Nat) (w : World) (h : Raw w A c xs) (g : Raw w B d ys) :
    Calls Tryd.prog 24 #[.agg #[.bool n1, .slice A xs.length c], .agg #[.bool n2, .slice B ys.length d]] w (RetInt2 w.heap.size w (if okI n1 xs && okI n2 ys then toldV (ival n1 xs + ival n2 ys) else 0) (if okI n1 xs && okI n2 ys then toldE (ival n1 xs + ival n2 ys) else 1)) := by
  by_cases o : (okI n1 xs && okI n2 ys) = true
  · rw [if_pos o, if_pos o]
    have o' := Bool.and_eq_true_iff.1 o
    exact whole_Add_ok n1 n2 A B c d xs ys o'.1 o'.2 _ (Lib.hid rfl) _ _ (Lib.hid rfl) (Lib.hid rfl) w h g
  · rw [if_neg o, if_neg o]
    exact whole_Add_bad n1 n2 A B c d xs ys (by simpa using o) w h g

set_option maxRecDepth 100000 in
set_option maxHeartbeats 1000000 in
theorem whole_Sub_ok (n1 n2 : Bool) (A B : Option Addr) (c d : Nat) (xs ys : List Nat) (o1 : okI n1 xs = true) (o2 : okI n2 ys = true) (z : Int) (HZV : Hid (z = ival n1 xs - ival n2 ys)) (r k : Int) (HR : Hid (r = toldV z)) (HK : Hid (k = toldE z)) (w : World) (h : Raw w A c xs) (g : Raw w B d ys) :
    Calls Tryd.prog 20 #[.agg #[.bool n1, .slice A xs.length c], .agg #[.bool n2, .slice B ys.length d]] w (RetInt2 w.heap.size w r k) := by
  have C0 := fun (V : World) (h : Raw V A c xs) (g : Raw V B d ys) => whole_fine_any n1 n2 A B c d xs ys V h g
  have C1 := fun (V : World) (h : Raw V A c xs) (g : Raw V B d ys) => show Calls Tryd.prog 35 #[.agg #[.bool n1, .slice A xs.length c], .agg #[.bool n2, .slice B ys.length d]] V (RetInt V.heap.size V z) from by rw [HZV.out]; exact exact_Minus n1 n2 A B c d xs ys (okI_true.1 o1).2.1 (okI_true.1 o2).2.1 (by have := (okI_true.1 o1).1; omega) (by have := (okI_true.1 o2).1; omega) V h g
  have C2 := fun (V : World) (base : Nat) (v : Value) (hv : IntOwn V base v z) => show Calls Tryd.prog 34 #[v] V (RetInt2 base V r k) from by rw [HR.out, HK.out]; exact whole_told base v z V hv
  rw [o1, o2, Bool.and_self] at C0
  have H1 := Lib.hid C1
  have H2 := Lib.hid C2
  have H0 := Lib.hid C0
  clear C0 C1 C2 o1 o2
  have px := ((Pair.new w 24 (.bool n1) (.slice A xs.length c)).alloc (.cells #[.bool n2, .slice B ys.length d] 24)).alloc (.cells #[.bool false, .slice none 0 0] 24)
  have py := (Pair.new (w.alloc (.cells #[.bool n1, .slice A xs.length c] 24)) 24 (.bool n2) (.slice B ys.length d)).alloc (.cells #[.bool false, .slice none 0 0] 24)
  have pr := Pair.new ((w.alloc (.cells #[.bool n1, .slice A xs.length c] 24)).alloc (.cells #[.bool n2, .slice B ys.length d] 24)) 24 (.bool false) (.slice none 0 0)
  have rx := (((h.alloc (.cells #[.bool n1, .slice A xs.length c] 24)).alloc (.cells #[.bool n2, .slice B ys.length d] 24)).alloc (.cells #[.bool false, .slice none 0 0] 24))
  have ry := (((g.alloc (.cells #[.bool n1, .slice A xs.length c] 24)).alloc (.cells #[.bool n2, .slice B ys.length d] 24)).alloc (.cells #[.bool false, .slice none 0 0] 24))
  have b0 := (((Below.refl w.heap.size w).alloc (Nat.le_refl _) (.cells #[.bool n1, .slice A xs.length c] 24)).alloc (by simp) (.cells #[.bool n2, .slice B ys.length d] 24)).alloc (by simp; omega) (.cells #[.bool false, .slice none 0 0] 24)
  simp only [World.size_alloc] at py pr
  clear h g
  go_enter Tryd.func20, Tryd.ntmps20
  go_wp2_with fail
  obtain ⟨W, E⟩ : ∃ W, W = ((w.alloc (.cells #[.bool n1, .slice A xs.length c] 24)).alloc (.cells #[.bool n2, .slice B ys.length d] 24)).alloc (.cells #[.bool false, .slice none 0 0] 24) := ⟨_, rfl⟩
  rw [← E] at px py pr b0 rx ry ⊢
  clear E
  have PX := Lib.hid px
  have PY := Lib.hid py
  have PR := Lib.hid pr
  have B0 := Lib.hid b0
  have RX := Lib.hid rx
  have RY := Lib.hid ry
  have hlr := pr.blk.lt
  have hsz := b0.size
  obtain ⟨l1, x0, x1, -, -⟩ := px.facts
  obtain ⟨l2, y0, y1, -, -⟩ := py.facts
  clear px py pr rx ry b0
  go_wp2_with (first
    | (go_at_call 27; with_reducible refine (H0.out _ RX.out RY.out).mono ?_; rintro e w1 ⟨rfl, hb⟩; have rx := RX.out.below hb; have ry := RY.out.below hb; obtain ⟨l1, x0, x1, -, -⟩ := (PX.out.below hb).facts; obtain ⟨l2, y0, y1, -, -⟩ := (PY.out.below hb).facts)
    | (go_at_call 35; refine (H1.out _ rx ry).mono ?_; rintro e w2 ⟨v, rfl, hI, hb2⟩)
    | (go_at_call 34; refine (H2.out _ _ v hI).mono ?_; rintro e w3 ⟨v3, rfl, hI3, hb3⟩; obtain ⟨A1, c1, rfl, -⟩ := hI3.value; have pr := ((PR.out.below hb).below hb2).below hb3; obtain ⟨l3, z0, z1, f0, f1⟩ := pr.facts))
  have hq := pr.store (.bool (decide (r < 0))) (.slice A1 (natL r.natAbs).length c1)
  obtain ⟨_, k0, k1, _, _⟩ := hq.facts
  have hs1 := hb.size
  exact bodyPost_ret (by simp [results, Tryd.results20, go_sem, k0, k1]) rfl ⟨_, rfl, (hI3.pair (by omega)).base (by omega), below2 (belowTo (belowTo (belowTo B0.out hb) hb2) hb3) (by omega) _ _⟩

set_option maxRecDepth 100000 in
set_option maxHeartbeats 1000000 in
theorem whole_Sub_bad (n1 n2 : Bool) (A B : Option Addr) (c d : Nat) (xs ys : List Nat) (o : (okI n1 xs && okI n2 ys) = false) (w : World) (h : Raw w A c xs) (g : Raw w B d ys) :
    Calls Tryd.prog 20 #[.agg #[.bool n1, .slice A xs.length c], .agg #[.bool n2, .slice B ys.length d]] w (RetInt2 w.heap.size w 0 1) := by
  have C0 := fun (V : World) (h : Raw V A c xs) (g : Raw V B d ys) => whole_fine_any n1 n2 A B c d xs ys V h g
  rw [o] at C0
  have H0 := Lib.hid C0
  clear C0 o
  have px := ((Pair.new w 24 (.bool n1) (.slice A xs.length c)).alloc (.cells #[.bool n2, .slice B ys.length d] 24)).alloc (.cells #[.bool false, .slice none 0 0] 24)
  have py := (Pair.new (w.alloc (.cells #[.bool n1, .slice A xs.length c] 24)) 24 (.bool n2) (.slice B ys.length d)).alloc (.cells #[.bool false, .slice none 0 0] 24)
  have pr := Pair.new ((w.alloc (.cells #[.bool n1, .slice A xs.length c] 24)).alloc (.cells #[.bool n2, .slice B ys.length d] 24)) 24 (.bool false) (.slice none 0 0)
  have rx := (((h.alloc (.cells #[.bool n1, .slice A xs.length c] 24)).alloc (.cells #[.bool n2, .slice B ys.length d] 24)).alloc (.cells #[.bool false, .slice none 0 0] 24))
  have ry := (((g.alloc (.cells #[.bool n1, .slice A xs.length c] 24)).alloc (.cells #[.bool n2, .slice B ys.length d] 24)).alloc (.cells #[.bool false, .slice none 0 0] 24))
  have b0 := (((Below.refl w.heap.size w).alloc (Nat.le_refl _) (.cells #[.bool n1, .slice A xs.length c] 24)).alloc (by simp) (.cells #[.bool n2, .slice B ys.length d] 24)).alloc (by simp; omega) (.cells #[.bool false, .slice none 0 0] 24)
  simp only [World.size_alloc] at py pr
  clear h g
  go_enter Tryd.func20, Tryd.ntmps20
  go_wp2_with fail
  obtain ⟨W, E⟩ : ∃ W, W = ((w.alloc (.cells #[.bool n1, .slice A xs.length c] 24)).alloc (.cells #[.bool n2, .slice B ys.length d] 24)).alloc (.cells #[.bool false, .slice none 0 0] 24) := ⟨_, rfl⟩
  rw [← E] at px py pr b0 rx ry ⊢
  clear E
  have PX := Lib.hid px
  have PY := Lib.hid py
  have PR := Lib.hid pr
  have B0 := Lib.hid b0
  have RX := Lib.hid rx
  have RY := Lib.hid ry
  have hlr := pr.blk.lt
  have hsz := b0.size
  obtain ⟨l1, x0, x1, -, -⟩ := px.facts
  obtain ⟨l2, y0, y1, -, -⟩ := py.facts
  clear px py pr rx ry b0
  go_wp2_with (first | (go_at_call 27; with_reducible refine (H0.out _ RX.out RY.out).mono ?_; rintro e w1 ⟨rfl, hb⟩; have pr := PR.out.below hb; obtain ⟨l3, z0, z1, f0, f1⟩ := pr.facts))
  have hq := pr.store (.bool false) (.slice none 0 0)
  obtain ⟨_, k0, k1, _, _⟩ := hq.facts
  exact bodyPost_ret (by simp [results, Tryd.results20, go_sem, k0, k1]) rfl ⟨_, rfl, IntOwn.nought _ _, below2 (belowTo B0.out hb) (by omega) _ _⟩

theorem whole_Sub (n1 n2 : Bool) (A B : Option Addr) (c d : Nat) (xs ys : List Nat) (w : World) (h : Raw w A c xs) (g : Raw w B d ys) :
    Calls Tryd.prog 20 #[.agg #[.bool n1, .slice A xs.length c], .agg #[.bool n2, .slice B ys.length d]] w (RetInt2 w.heap.size w (if okI n1 xs && okI n2 ys then toldV (ival n1 xs - ival n2 ys) else 0) (if okI n1 xs && okI n2 ys then toldE (ival n1 xs - ival n2 ys) else 1)) := by
  by_cases o : (okI n1 xs && okI n2 ys) = true
  · rw [if_pos o, if_pos o]
    have o' := Bool.and_eq_true_iff.1 o
    exact whole_Sub_ok n1 n2 A B c d xs ys o'.1 o'.2 _ (Lib.hid rfl) _ _ (Lib.hid rfl) (Lib.hid rfl) w h g
  · rw [if_neg o, if_neg o]
    exact whole_Sub_bad n1 n2 A B c d xs ys (by simpa using o) w h g

set_option maxRecDepth 100000 in
set_option maxHeartbeats 1000000 in
theorem whole_Mul_ok (n1 n2 : Bool) (A B : Option Addr) (c d : Nat) (xs ys : List Nat) (o1 : okI n1 xs = true) (o2 : okI n2 ys = true) (z : Int) (HZV : Hid (z = ival n1 xs * ival n2 ys)) (r k : Int) (HR : Hid (r = toldV z)) (HK : Hid (k = toldE z)) (w : World) (h : Raw w A c xs) (g : Raw w B d ys) :
    Calls Tryd.prog 23 #[.agg #[.bool n1, .slice A xs.length c], .agg #[.bool n2, .slice B ys.length d]] w (RetInt2 w.heap.size w r k) := by
  have C0 := fun (V : World) (h : Raw V A c xs) (g : Raw V B d ys) => whole_fine_any n1 n2 A B c d xs ys V h g
  have C1 := fun (V : World) (h : Raw V A c xs) (g : Raw V B d ys) => show Calls Tryd.prog 38 #[.agg #[.bool n1, .slice A xs.length c], .agg #[.bool n2, .slice B ys.length d]] V (RetInt V.heap.size V z) from by rw [HZV.out]; exact exact_Times n1 n2 A B c d xs ys (by have := (okI_true.1 o1).1; omega) (by have := (okI_true.1 o2).1; omega) V h g
  have C2 := fun (V : World) (base : Nat) (v : Value) (hv : IntOwn V base v z) => show Calls Tryd.prog 34 #[v] V (RetInt2 base V r k) from by rw [HR.out, HK.out]; exact whole_told base v z V hv
  rw [o1, o2, Bool.and_self] at C0
  have H1 := Lib.hid C1
  have H2 := Lib.hid C2
  have H0 := Lib.hid C0
  clear C0 C1 C2 o1 o2
  have px := ((Pair.new w 24 (.bool n1) (.slice A xs.length c)).alloc (.cells #[.bool n2, .slice B ys.length d] 24)).alloc (.cells #[.bool false, .slice none 0 0] 24)
  have py := (Pair.new (w.alloc (.cells #[.bool n1, .slice A xs.length c] 24)) 24 (.bool n2) (.slice B ys.length d)).alloc (.cells #[.bool false, .slice none 0 0] 24)
  have pr := Pair.new ((w.alloc (.cells #[.bool n1, .slice A xs.length c] 24)).alloc (.cells #[.bool n2, .slice B ys.length d] 24)) 24 (.bool false) (.slice none 0 0)
  have rx := (((h.alloc (.cells #[.bool n1, .slice A xs.length c] 24)).alloc (.cells #[.bool n2, .slice B ys.length d] 24)).alloc (.cells #[.bool false, .slice none 0 0] 24))
  have ry := (((g.alloc (.cells #[.bool n1, .slice A xs.length c] 24)).alloc (.cells #[.bool n2, .slice B ys.length d] 24)).alloc (.cells #[.bool false, .slice none 0 0] 24))
  have b0 := (((Below.refl w.heap.size w).alloc (Nat.le_refl _) (.cells #[.bool n1, .slice A xs.length c] 24)).alloc (by simp) (.cells #[.bool n2, .slice B ys.length d] 24)).alloc (by simp; omega) (.cells #[.bool false, .slice none 0 0] 24)
  simp only [World.size_alloc] at py pr
  clear h g
  go_enter Tryd.func23, Tryd.ntmps23
  go_wp2_with fail
  obtain ⟨W, E⟩ : ∃ W, W = ((w.alloc (.cells #[.bool n1, .slice A xs.length c] 24)).alloc (.cells #[.bool n2, .slice B ys.length d] 24)).alloc (.cells #[.bool false, .slice none 0 0] 24) := ⟨_, rfl⟩
  rw [← E] at px py pr b0 rx ry ⊢
  clear E
  have PX := Lib.hid px
  have PY := Lib.hid py
  have PR := Lib.hid pr
  have B0 := Lib.hid b0
  have RX := Lib.hid rx
  have RY := Lib.hid ry
  have hlr := pr.blk.lt
  have hsz := b0.size
  obtain ⟨l1, x0, x1, -, -⟩ := px.facts
  obtain ⟨l2, y0, y1, -, -⟩ := py.facts
  clear px py pr rx ry b0
  go_wp2_with (first
    | (go_at_call 27; with_reducible refine (H0.out _ RX.out RY.out).mono ?_; rintro e w1 ⟨rfl, hb⟩; have rx := RX.out.below hb; have ry := RY.out.below hb; obtain ⟨l1, x0, x1, -, -⟩ := (PX.out.below hb).facts; obtain ⟨l2, y0, y1, -, -⟩ := (PY.out.below hb).facts)
    | (go_at_call 38; refine (H1.out _ rx ry).mono ?_; rintro e w2 ⟨v, rfl, hI, hb2⟩)
    | (go_at_call 34; refine (H2.out _ _ v hI).mono ?_; rintro e w3 ⟨v3, rfl, hI3, hb3⟩; obtain ⟨A1, c1, rfl, -⟩ := hI3.value; have pr := ((PR.out.below hb).below hb2).below hb3; obtain ⟨l3, z0, z1, f0, f1⟩ := pr.facts))
  have hq := pr.store (.bool (decide (r < 0))) (.slice A1 (natL r.natAbs).length c1)
  obtain ⟨_, k0, k1, _, _⟩ := hq.facts
  have hs1 := hb.size
  exact bodyPost_ret (by simp [results, Tryd.results23, go_sem, k0, k1]) rfl ⟨_, rfl, (hI3.pair (by omega)).base (by omega), below2 (belowTo (belowTo (belowTo B0.out hb) hb2) hb3) (by omega) _ _⟩

set_option maxRecDepth 100000 in
set_option maxHeartbeats 1000000 in
theorem whole_Mul_bad (n1 n2 : Bool) (A B : Option Addr) (c d : Nat) (xs ys : List Nat) (o : (okI n1 xs && okI n2 ys) = false) (w : World) (h : Raw w A c xs) (g : Raw w B d ys) :
    Calls Tryd.prog 23 #[.agg #[.bool n1, .slice A xs.length c], .agg #[.bool n2, .slice B ys.length d]] w (RetInt2 w.heap.size w 0 1) := by
  have C0 := fun (V : World) (h : Raw V A c xs) (g : Raw V B d ys) => whole_fine_any n1 n2 A B c d xs ys V h g
  rw [o] at C0
  have H0 := Lib.hid C0
  clear C0 o
  have px := ((Pair.new w 24 (.bool n1) (.slice A xs.length c)).alloc (.cells #[.bool n2, .slice B ys.length d] 24)).alloc (.cells #[.bool false, .slice none 0 0] 24)
  have py := (Pair.new (w.alloc (.cells #[.bool n1, .slice A xs.length c] 24)) 24 (.bool n2) (.slice B ys.length d)).alloc (.cells #[.bool false, .slice none 0 0] 24)
  have pr := Pair.new ((w.alloc (.cells #[.bool n1, .slice A xs.length c] 24)).alloc (.cells #[.bool n2, .slice B ys.length d] 24)) 24 (.bool false) (.slice none 0 0)
  have rx := (((h.alloc (.cells #[.bool n1, .slice A xs.length c] 24)).alloc (.cells #[.bool n2, .slice B ys.length d] 24)).alloc (.cells #[.bool false, .slice none 0 0] 24))
  have ry := (((g.alloc (.cells #[.bool n1, .slice A xs.length c] 24)).alloc (.cells #[.bool n2, .slice B ys.length d] 24)).alloc (.cells #[.bool false, .slice none 0 0] 24))
  have b0 := (((Below.refl w.heap.size w).alloc (Nat.le_refl _) (.cells #[.bool n1, .slice A xs.length c] 24)).alloc (by simp) (.cells #[.bool n2, .slice B ys.length d] 24)).alloc (by simp; omega) (.cells #[.bool false, .slice none 0 0] 24)
  simp only [World.size_alloc] at py pr
  clear h g
  go_enter Tryd.func23, Tryd.ntmps23
  go_wp2_with fail
  obtain ⟨W, E⟩ : ∃ W, W = ((w.alloc (.cells #[.bool n1, .slice A xs.length c] 24)).alloc (.cells #[.bool n2, .slice B ys.length d] 24)).alloc (.cells #[.bool false, .slice none 0 0] 24) := ⟨_, rfl⟩
  rw [← E] at px py pr b0 rx ry ⊢
  clear E
  have PX := Lib.hid px
  have PY := Lib.hid py
  have PR := Lib.hid pr
  have B0 := Lib.hid b0
  have RX := Lib.hid rx
  have RY := Lib.hid ry
  have hlr := pr.blk.lt
  have hsz := b0.size
  obtain ⟨l1, x0, x1, -, -⟩ := px.facts
  obtain ⟨l2, y0, y1, -, -⟩ := py.facts
  clear px py pr rx ry b0
  go_wp2_with (first | (go_at_call 27; with_reducible refine (H0.out _ RX.out RY.out).mono ?_; rintro e w1 ⟨rfl, hb⟩; have pr := PR.out.below hb; obtain ⟨l3, z0, z1, f0, f1⟩ := pr.facts))
  have hq := pr.store (.bool false) (.slice none 0 0)
  obtain ⟨_, k0, k1, _, _⟩ := hq.facts
  exact bodyPost_ret (by simp [results, Tryd.results23, go_sem, k0, k1]) rfl ⟨_, rfl, IntOwn.nought _ _, below2 (belowTo B0.out hb) (by omega) _ _⟩

theorem whole_Mul (n1 n2 : Bool) (A B : Option Addr) (c d : Nat) (xs ys : List Nat) (w : World) (h : Raw w A c xs) (g : Raw w B d ys) :
    Calls Tryd.prog 23 #[.agg #[.bool n1, .slice A xs.length c], .agg #[.bool n2, .slice B ys.length d]] w (RetInt2 w.heap.size w (if okI n1 xs && okI n2 ys then toldV (ival n1 xs * ival n2 ys) else 0) (if okI n1 xs && okI n2 ys then toldE (ival n1 xs * ival n2 ys) else 1)) := by
  by_cases o : (okI n1 xs && okI n2 ys) = true
  · rw [if_pos o, if_pos o]
    have o' := Bool.and_eq_true_iff.1 o
    exact whole_Mul_ok n1 n2 A B c d xs ys o'.1 o'.2 _ (Lib.hid rfl) _ _ (Lib.hid rfl) (Lib.hid rfl) w h g
  · rw [if_neg o, if_neg o]
    exact whole_Mul_bad n1 n2 A B c d xs ys (by simpa using o) w h g

end Go.Proofs.YtpcdiijmhllejaaDoor

/- QuoRem and GCD of package whole and of the references. (Written by wip/exact/gendivops.py.) -/
namespace Go.Proofs.YtpcdiijmhllejaaDoor
open Go.RowKit

/-- Two numbers of the call's own that share no memory, and an error. -/
def RetTwo3 (base : Nat) (w : World) (z1 z2 k : Int) (e : Ending) (w' : World) : Prop := ∃ v1 v2, e = .returned (.tuple #[v1, v2, .int .i64 k]) ∧ Ints2 w' base v1 z1 v2 z2 ∧ Below w.heap.size w w'
/-- Two numbers of the call's own, and an error. -/
def RetBoth3 (base : Nat) (w : World) (z1 z2 k : Int) (e : Ending) (w' : World) : Prop := ∃ v1 v2, e = .returned (.tuple #[v1, v2, .int .i64 k]) ∧ IntOwn w' base v1 z1 ∧ IntOwn w' base v2 z2 ∧ Below w.heap.size w w'
/-- A number wherever it lies, and an error. -/
def RetAt2 (w : World) (z k : Int) (e : Ending) (w' : World) : Prop := ∃ v, e = .returned (.tuple #[v, .int .i64 k]) ∧ IntAt w' v z ∧ Below w.heap.size w w'
theorem Ints2.drew {w : World} {base : Nat} {v1 v2 : Value} {z1 z2 : Int} (h : Ints2 w base v1 z1 v2 z2) : Ints2 w.drew base v1 z1 v2 z2 := h.below (Below.refl _ _).drew
theorem IntOwn.drew {w : World} {base : Nat} {v : Value} {x : Int} (h : IntOwn w base v x) : IntOwn w.drew base v x := h.below (Below.refl _ _).drew
theorem Ints2.nought (w : World) (base : Nat) : Ints2 w base (.agg #[.bool false, .slice none 0 0]) 0 (.agg #[.bool false, .slice none 0 0]) 0 :=
  ⟨IntOwn.nought _ _, IntOwn.nought _ _, fun g h => by cases h⟩
def quoV (n1 : Bool) (xs : List Nat) (n2 : Bool) (ys : List Nat) : Int := if okI n1 xs && okI n2 ys then (if ys.length = 0 then 0 else (ival n1 xs).tdiv (ival n2 ys)) else 0
def remV (n1 : Bool) (xs : List Nat) (n2 : Bool) (ys : List Nat) : Int := if okI n1 xs && okI n2 ys then (if ys.length = 0 then 0 else (ival n1 xs).tmod (ival n2 ys)) else 0
def quoE (n1 : Bool) (xs : List Nat) (n2 : Bool) (ys : List Nat) : Int := if okI n1 xs && okI n2 ys then (if ys.length = 0 then 3 else 0) else 1
def gcdV (n1 : Bool) (xs : List Nat) (n2 : Bool) (ys : List Nat) : Int := if okI n1 xs && okI n2 ys then ((Nat.gcd (val xs) (val ys) : Nat) : Int) else 0
def gcdE (n1 : Bool) (xs : List Nat) (n2 : Bool) (ys : List Nat) : Int := if okI n1 xs && okI n2 ys then 0 else 1

/-- The greatest common divisor: of the call's own, or one of the two as it came. -/
def RetOf (A B : Option Addr) (c d : Nat) (xs ys : List Nat) (w : World) (z : Int) (e : Ending) (w' : World) : Prop := ∃ v, e = .returned v ∧ (IntOwn w' w.heap.size v z ∨ (v = sv false A c xs ∧ z = ival false xs) ∨ (v = sv false B d ys ∧ z = ival false ys)) ∧ Below w.heap.size w w'
theorem of_shape {A B : Option Addr} {c d base : Nat} {xs ys : List Nat} {w : World} {z : Int} {v : Value} (h : IntOwn w base v z ∨ (v = sv false A c xs ∧ z = ival false xs) ∨ (v = sv false B d ys ∧ z = ival false ys)) : ∃ b A' k c', v = .agg #[.bool b, .slice A' k c'] := by
  rcases h with h | h | h
  · exact h.shape
  · rw [h.1]; exact sv_form _ _ _ _
  · rw [h.1]; exact sv_form _ _ _ _
set_option maxRecDepth 100000 in
set_option maxHeartbeats 2000000 in
theorem whole_QuoRem_ok (n1 n2 : Bool) (A B : Option Addr) (c d : Nat) (xs ys : List Nat) (o1 : okI n1 xs = true) (o2 : okI n2 ys = true) (hne : ys ≠ []) (z1 z2 : Int) (HZ1 : Hid (z1 = (ival n1 xs).tdiv (ival n2 ys))) (HZ2 : Hid (z2 = (ival n1 xs).tmod (ival n2 ys))) (w : World) (h : Raw w A c xs) (g : Raw w B d ys) :
    Calls Tryd.prog 12 #[.agg #[.bool n1, .slice A xs.length c], .agg #[.bool n2, .slice B ys.length d]] w (RetTwo3 w.heap.size w z1 z2 0) := by
  have hlen : ((ys.length : Int) == 0) = false := by
    have : ys.length ≠ 0 := fun e => hne (List.eq_nil_of_length_eq_zero e)
    simp; omega
  have hcx := (okI_true.1 o1).2.1
  have hcy := (okI_true.1 o2).2.1
  have hlx := (okI_true.1 o1).1
  have hly := (okI_true.1 o2).1
  have C0 := fun (V : World) (h : Raw V A c xs) (g : Raw V B d ys) => whole_fine_any n1 n2 A B c d xs ys V h g
  rw [o1, o2, Bool.and_self] at C0
  have H0 := Lib.hid C0
  have H1 := Lib.hid (fun (V : World) (h : Raw V A c xs) (g : Raw V B d ys) => show Calls Tryd.prog 29 #[.agg #[.bool n1, .slice A xs.length c], .agg #[.bool n2, .slice B ys.length d]] V (RetTwo V.heap.size V z1 z2) from by rw [HZ1.out, HZ2.out]; exact exact_Divide n1 n2 A B c d xs ys hcx hcy hne (by omega) (by omega) V h g)
  clear C0 o1 o2 hcx hcy hlx hly
  have px := (((Pair.new w 24 (.bool n1) (.slice A xs.length c)).alloc (.cells #[.bool n2, .slice B ys.length d] 24)).alloc (.cells #[.bool false, .slice none 0 0] 24)).alloc (.cells #[.bool false, .slice none 0 0] 24)
  have py := ((Pair.new (w.alloc (.cells #[.bool n1, .slice A xs.length c] 24)) 24 (.bool n2) (.slice B ys.length d)).alloc (.cells #[.bool false, .slice none 0 0] 24)).alloc (.cells #[.bool false, .slice none 0 0] 24)
  have pq := (Pair.new ((w.alloc (.cells #[.bool n1, .slice A xs.length c] 24)).alloc (.cells #[.bool n2, .slice B ys.length d] 24)) 24 (.bool false) (.slice none 0 0)).alloc (.cells #[.bool false, .slice none 0 0] 24)
  have pr := Pair.new (((w.alloc (.cells #[.bool n1, .slice A xs.length c] 24)).alloc (.cells #[.bool n2, .slice B ys.length d] 24)).alloc (.cells #[.bool false, .slice none 0 0] 24)) 24 (.bool false) (.slice none 0 0)
  have rx := (((h.alloc (.cells #[.bool n1, .slice A xs.length c] 24)).alloc (.cells #[.bool n2, .slice B ys.length d] 24)).alloc (.cells #[.bool false, .slice none 0 0] 24)).alloc (.cells #[.bool false, .slice none 0 0] 24)
  have ry := (((g.alloc (.cells #[.bool n1, .slice A xs.length c] 24)).alloc (.cells #[.bool n2, .slice B ys.length d] 24)).alloc (.cells #[.bool false, .slice none 0 0] 24)).alloc (.cells #[.bool false, .slice none 0 0] 24)
  have b0 := (((Below.refl w.heap.size w).alloc (Nat.le_refl _) (.cells #[.bool n1, .slice A xs.length c] 24)).alloc (by simp) (.cells #[.bool n2, .slice B ys.length d] 24)).alloc (by simp; omega) (.cells #[.bool false, .slice none 0 0] 24)
  have b0 := b0.alloc (by simp; omega) (.cells #[.bool false, .slice none 0 0] 24)
  simp only [World.size_alloc] at py pq pr
  clear h g
  go_enter Tryd.func12, Tryd.ntmps12
  go_wp2_with fail
  obtain ⟨W, E⟩ : ∃ W, W = (((w.alloc (.cells #[.bool n1, .slice A xs.length c] 24)).alloc (.cells #[.bool n2, .slice B ys.length d] 24)).alloc (.cells #[.bool false, .slice none 0 0] 24)).alloc (.cells #[.bool false, .slice none 0 0] 24) := ⟨_, rfl⟩
  rw [← E] at px py pq pr b0 rx ry ⊢
  have hsz : W.heap.size = w.heap.size + 4 := by rw [E]; simp
  clear E
  have PX := Lib.hid px
  have PY := Lib.hid py
  have PQ := Lib.hid pq
  have PR := Lib.hid pr
  have B0 := Lib.hid b0
  have RX := Lib.hid rx
  have RY := Lib.hid ry
  obtain ⟨l1, x0, x1, -, -⟩ := px.facts
  obtain ⟨l2, y0, y1, -, -⟩ := py.facts
  clear px py pq pr rx ry b0
  go_wp2_with (first
    | (go_at_call 27; with_reducible refine (H0.out _ RX.out RY.out).mono ?_; rintro e w1 ⟨rfl, hb⟩; have rx := RX.out.below hb; have ry := RY.out.below hb; obtain ⟨l1, x0, x1, -, -⟩ := (PX.out.below hb).facts; obtain ⟨l2, y0, y1, -, -⟩ := (PY.out.below hb).facts)
    | (go_at_call 29; refine (H1.out _ rx ry).mono ?_; rintro e w2 ⟨v1, v2, rfl, hI, hb2⟩; obtain ⟨b1, A1, m1, c1, rfl⟩ := hI.one.shape; obtain ⟨b2, A2, m2, c2, rfl⟩ := hI.two.shape; have pq := (PQ.out.below hb).below hb2; have pr := (PR.out.below hb).below hb2; obtain ⟨l3, q0, q1, f0, f1⟩ := pq.facts; obtain ⟨l4, r0, r1, g0, g1⟩ := pr.facts))
  have hs1 := hb.size
  have q3 := (pq.store (.bool b1) (.slice A1 m1 c1)).far (show w.heap.size + 1 + 1 ≠ w.heap.size + 1 + 1 + 1 by omega) (.bool b2) (.slice A2 m2 c2)
  have r3 := (pr.far (show w.heap.size + 1 + 1 + 1 ≠ w.heap.size + 1 + 1 by omega) (.bool b1) (.slice A1 m1 c1)).store (.bool b2) (.slice A2 m2 c2)
  have i3 := (hI.pair (g := w.heap.size + 1 + 1) (a := .bool b1) (b := .slice A1 m1 c1) (by omega)).pair (g := w.heap.size + 1 + 1 + 1) (a := .bool b2) (b := .slice A2 m2 c2) (by omega)
  have b3 := below2 (below2 (belowTo (belowTo B0.out hb) hb2) (show w.heap.size ≤ w.heap.size + 1 + 1 by omega) (.bool b1) (.slice A1 m1 c1)) (show w.heap.size ≤ w.heap.size + 1 + 1 + 1 by omega) (.bool b2) (.slice A2 m2 c2)
  obtain ⟨W3, E3⟩ : ∃ W3, W3 = ((((w2.setCell ⟨w.heap.size + 1 + 1, 0, none⟩ (.bool b1)).setCell ⟨w.heap.size + 1 + 1, 1, none⟩ (.slice A1 m1 c1)).setCell ⟨w.heap.size + 1 + 1 + 1, 0, none⟩ (.bool b2)).setCell ⟨w.heap.size + 1 + 1 + 1, 1, none⟩ (.slice A2 m2 c2)) := ⟨_, rfl⟩
  rw [← E3] at q3 r3 i3 b3 ⊢
  have hsz3 : w.heap.size + 4 ≤ w1.heap.size := by omega
  have I4 := Lib.hid ((i3.pair (g := w.heap.size + 1 + 1) (a := .bool b1) (b := .slice A1 m1 c1) (by omega)).pair (g := w.heap.size + 1 + 1 + 1) (a := .bool b2) (b := .slice A2 m2 c2) (by omega) |>.base (b' := w.heap.size) (by omega))
  have Q4 := Lib.hid ((q3.store (.bool b1) (.slice A1 m1 c1)).far (show w.heap.size + 1 + 1 ≠ w.heap.size + 1 + 1 + 1 by omega) (.bool b2) (.slice A2 m2 c2))
  have R4 := Lib.hid ((r3.far (show w.heap.size + 1 + 1 + 1 ≠ w.heap.size + 1 + 1 by omega) (.bool b1) (.slice A1 m1 c1)).store (.bool b2) (.slice A2 m2 c2))
  have B4 := Lib.hid (below2 (below2 b3 (show w.heap.size ≤ w.heap.size + 1 + 1 by omega) (.bool b1) (.slice A1 m1 c1)) (show w.heap.size ≤ w.heap.size + 1 + 1 + 1 by omega) (.bool b2) (.slice A2 m2 c2))
  obtain ⟨l3, q0, q1, f0, f1⟩ := q3.facts
  obtain ⟨l4, r0, r1, g0, g1⟩ := r3.facts
  clear E3 q3 r3 i3 hI pq pr b3 hb hb2 B0 PX PY PQ PR H0 H1 RX RY
  go_region
  all_goals (go_wp2_with fail)
  all_goals
    obtain ⟨_, k0, k1, _, _⟩ := Q4.out.facts
    obtain ⟨_, k2, k3, _, _⟩ := R4.out.facts
    exact bodyPost_ret (by simp [results, Tryd.results12, go_sem, k0, k1, k2, k3]) rfl ⟨_, _, rfl, I4.out.drew, B4.out.drew⟩

set_option maxRecDepth 100000 in
set_option maxHeartbeats 2000000 in
theorem whole_QuoRem_bad (n1 n2 : Bool) (A B : Option Addr) (c d : Nat) (xs ys : List Nat) (o : (okI n1 xs && okI n2 ys) = false) (w : World) (h : Raw w A c xs) (g : Raw w B d ys) :
    Calls Tryd.prog 12 #[.agg #[.bool n1, .slice A xs.length c], .agg #[.bool n2, .slice B ys.length d]] w (RetTwo3 w.heap.size w 0 0 1) := by
  have C0 := fun (V : World) (h : Raw V A c xs) (g : Raw V B d ys) => whole_fine_any n1 n2 A B c d xs ys V h g
  rw [o] at C0
  have H0 := Lib.hid C0
  clear C0 o
  have px := (((Pair.new w 24 (.bool n1) (.slice A xs.length c)).alloc (.cells #[.bool n2, .slice B ys.length d] 24)).alloc (.cells #[.bool false, .slice none 0 0] 24)).alloc (.cells #[.bool false, .slice none 0 0] 24)
  have py := ((Pair.new (w.alloc (.cells #[.bool n1, .slice A xs.length c] 24)) 24 (.bool n2) (.slice B ys.length d)).alloc (.cells #[.bool false, .slice none 0 0] 24)).alloc (.cells #[.bool false, .slice none 0 0] 24)
  have pq := (Pair.new ((w.alloc (.cells #[.bool n1, .slice A xs.length c] 24)).alloc (.cells #[.bool n2, .slice B ys.length d] 24)) 24 (.bool false) (.slice none 0 0)).alloc (.cells #[.bool false, .slice none 0 0] 24)
  have pr := Pair.new (((w.alloc (.cells #[.bool n1, .slice A xs.length c] 24)).alloc (.cells #[.bool n2, .slice B ys.length d] 24)).alloc (.cells #[.bool false, .slice none 0 0] 24)) 24 (.bool false) (.slice none 0 0)
  have rx := (((h.alloc (.cells #[.bool n1, .slice A xs.length c] 24)).alloc (.cells #[.bool n2, .slice B ys.length d] 24)).alloc (.cells #[.bool false, .slice none 0 0] 24)).alloc (.cells #[.bool false, .slice none 0 0] 24)
  have ry := (((g.alloc (.cells #[.bool n1, .slice A xs.length c] 24)).alloc (.cells #[.bool n2, .slice B ys.length d] 24)).alloc (.cells #[.bool false, .slice none 0 0] 24)).alloc (.cells #[.bool false, .slice none 0 0] 24)
  have b0 := (((Below.refl w.heap.size w).alloc (Nat.le_refl _) (.cells #[.bool n1, .slice A xs.length c] 24)).alloc (by simp) (.cells #[.bool n2, .slice B ys.length d] 24)).alloc (by simp; omega) (.cells #[.bool false, .slice none 0 0] 24)
  have b0 := b0.alloc (by simp; omega) (.cells #[.bool false, .slice none 0 0] 24)
  simp only [World.size_alloc] at py pq pr
  clear h g
  go_enter Tryd.func12, Tryd.ntmps12
  go_wp2_with fail
  obtain ⟨W, E⟩ : ∃ W, W = (((w.alloc (.cells #[.bool n1, .slice A xs.length c] 24)).alloc (.cells #[.bool n2, .slice B ys.length d] 24)).alloc (.cells #[.bool false, .slice none 0 0] 24)).alloc (.cells #[.bool false, .slice none 0 0] 24) := ⟨_, rfl⟩
  rw [← E] at px py pq pr b0 rx ry ⊢
  have hsz : W.heap.size = w.heap.size + 4 := by rw [E]; simp
  clear E
  have PX := Lib.hid px
  have PY := Lib.hid py
  have PQ := Lib.hid pq
  have PR := Lib.hid pr
  have B0 := Lib.hid b0
  have RX := Lib.hid rx
  have RY := Lib.hid ry
  obtain ⟨l1, x0, x1, -, -⟩ := px.facts
  obtain ⟨l2, y0, y1, -, -⟩ := py.facts
  clear px py pq pr rx ry b0
  go_wp2_with (first
    | (go_at_call 27; with_reducible refine (H0.out _ RX.out RY.out).mono ?_; rintro e w1 ⟨rfl, hb⟩; have pq := PQ.out.below hb; have pr := PR.out.below hb; obtain ⟨l1, x0, x1, -, -⟩ := (PX.out.below hb).facts; obtain ⟨l2, y0, y1, -, -⟩ := (PY.out.below hb).facts; obtain ⟨l3, q0, q1, f0, f1⟩ := pq.facts; obtain ⟨l4, r0, r1, g0, g1⟩ := pr.facts))
  have Q4 := Lib.hid ((pq.store (.bool false) (.slice none 0 0)).far (show w.heap.size + 1 + 1 ≠ w.heap.size + 1 + 1 + 1 by omega) (.bool false) (.slice none 0 0))
  have R4 := Lib.hid ((pr.far (show w.heap.size + 1 + 1 + 1 ≠ w.heap.size + 1 + 1 by omega) (.bool false) (.slice none 0 0)).store (.bool false) (.slice none 0 0))
  have B4 := Lib.hid (below2 (below2 (belowTo B0.out hb) (show w.heap.size ≤ w.heap.size + 1 + 1 by omega) (.bool false) (.slice none 0 0)) (show w.heap.size ≤ w.heap.size + 1 + 1 + 1 by omega) (.bool false) (.slice none 0 0))
  obtain ⟨_, k0, k1, _, _⟩ := Q4.out.facts
  obtain ⟨_, k2, k3, _, _⟩ := R4.out.facts
  exact bodyPost_ret (by simp [results, Tryd.results12, go_sem, k0, k1, k2, k3]) rfl ⟨_, _, rfl, Ints2.nought _ _, B4.out⟩

set_option maxRecDepth 100000 in
set_option maxHeartbeats 2000000 in
theorem whole_QuoRem_nought (n1 n2 : Bool) (A B : Option Addr) (c d : Nat) (xs ys : List Nat) (o1 : (okI n1 xs && okI n2 ys) = true) (he : ys = []) (w : World) (h : Raw w A c xs) (g : Raw w B d ys) :
    Calls Tryd.prog 12 #[.agg #[.bool n1, .slice A xs.length c], .agg #[.bool n2, .slice B ys.length d]] w (RetTwo3 w.heap.size w 0 0 3) := by
  have C0 := fun (V : World) (h : Raw V A c xs) (g : Raw V B d ys) => whole_fine_any n1 n2 A B c d xs ys V h g
  rw [o1] at C0
  have H0 := Lib.hid C0
  have hlen : ((ys.length : Int) == 0) = true := by subst he; rfl
  clear C0 o1 he
  have px := (((Pair.new w 24 (.bool n1) (.slice A xs.length c)).alloc (.cells #[.bool n2, .slice B ys.length d] 24)).alloc (.cells #[.bool false, .slice none 0 0] 24)).alloc (.cells #[.bool false, .slice none 0 0] 24)
  have py := ((Pair.new (w.alloc (.cells #[.bool n1, .slice A xs.length c] 24)) 24 (.bool n2) (.slice B ys.length d)).alloc (.cells #[.bool false, .slice none 0 0] 24)).alloc (.cells #[.bool false, .slice none 0 0] 24)
  have pq := (Pair.new ((w.alloc (.cells #[.bool n1, .slice A xs.length c] 24)).alloc (.cells #[.bool n2, .slice B ys.length d] 24)) 24 (.bool false) (.slice none 0 0)).alloc (.cells #[.bool false, .slice none 0 0] 24)
  have pr := Pair.new (((w.alloc (.cells #[.bool n1, .slice A xs.length c] 24)).alloc (.cells #[.bool n2, .slice B ys.length d] 24)).alloc (.cells #[.bool false, .slice none 0 0] 24)) 24 (.bool false) (.slice none 0 0)
  have rx := (((h.alloc (.cells #[.bool n1, .slice A xs.length c] 24)).alloc (.cells #[.bool n2, .slice B ys.length d] 24)).alloc (.cells #[.bool false, .slice none 0 0] 24)).alloc (.cells #[.bool false, .slice none 0 0] 24)
  have ry := (((g.alloc (.cells #[.bool n1, .slice A xs.length c] 24)).alloc (.cells #[.bool n2, .slice B ys.length d] 24)).alloc (.cells #[.bool false, .slice none 0 0] 24)).alloc (.cells #[.bool false, .slice none 0 0] 24)
  have b0 := (((Below.refl w.heap.size w).alloc (Nat.le_refl _) (.cells #[.bool n1, .slice A xs.length c] 24)).alloc (by simp) (.cells #[.bool n2, .slice B ys.length d] 24)).alloc (by simp; omega) (.cells #[.bool false, .slice none 0 0] 24)
  have b0 := b0.alloc (by simp; omega) (.cells #[.bool false, .slice none 0 0] 24)
  simp only [World.size_alloc] at py pq pr
  clear h g
  go_enter Tryd.func12, Tryd.ntmps12
  go_wp2_with fail
  obtain ⟨W, E⟩ : ∃ W, W = (((w.alloc (.cells #[.bool n1, .slice A xs.length c] 24)).alloc (.cells #[.bool n2, .slice B ys.length d] 24)).alloc (.cells #[.bool false, .slice none 0 0] 24)).alloc (.cells #[.bool false, .slice none 0 0] 24) := ⟨_, rfl⟩
  rw [← E] at px py pq pr b0 rx ry ⊢
  have hsz : W.heap.size = w.heap.size + 4 := by rw [E]; simp
  clear E
  have PX := Lib.hid px
  have PY := Lib.hid py
  have PQ := Lib.hid pq
  have PR := Lib.hid pr
  have B0 := Lib.hid b0
  have RX := Lib.hid rx
  have RY := Lib.hid ry
  obtain ⟨l1, x0, x1, -, -⟩ := px.facts
  obtain ⟨l2, y0, y1, -, -⟩ := py.facts
  clear px py pq pr rx ry b0
  go_wp2_with (first
    | (go_at_call 27; with_reducible refine (H0.out _ RX.out RY.out).mono ?_; rintro e w1 ⟨rfl, hb⟩; have pq := PQ.out.below hb; have pr := PR.out.below hb; obtain ⟨l1, x0, x1, -, -⟩ := (PX.out.below hb).facts; obtain ⟨l2, y0, y1, -, -⟩ := (PY.out.below hb).facts; obtain ⟨l3, q0, q1, f0, f1⟩ := pq.facts; obtain ⟨l4, r0, r1, g0, g1⟩ := pr.facts))
  have Q4 := Lib.hid ((pq.store (.bool false) (.slice none 0 0)).far (show w.heap.size + 1 + 1 ≠ w.heap.size + 1 + 1 + 1 by omega) (.bool false) (.slice none 0 0))
  have R4 := Lib.hid ((pr.far (show w.heap.size + 1 + 1 + 1 ≠ w.heap.size + 1 + 1 by omega) (.bool false) (.slice none 0 0)).store (.bool false) (.slice none 0 0))
  have B4 := Lib.hid (below2 (below2 (belowTo B0.out hb) (show w.heap.size ≤ w.heap.size + 1 + 1 by omega) (.bool false) (.slice none 0 0)) (show w.heap.size ≤ w.heap.size + 1 + 1 + 1 by omega) (.bool false) (.slice none 0 0))
  obtain ⟨_, k0, k1, _, _⟩ := Q4.out.facts
  obtain ⟨_, k2, k3, _, _⟩ := R4.out.facts
  exact bodyPost_ret (by simp [results, Tryd.results12, go_sem, k0, k1, k2, k3]) rfl ⟨_, _, rfl, Ints2.nought _ _, B4.out⟩

theorem whole_QuoRem (n1 n2 : Bool) (A B : Option Addr) (c d : Nat) (xs ys : List Nat) (w : World) (h : Raw w A c xs) (g : Raw w B d ys) :
    Calls Tryd.prog 12 #[.agg #[.bool n1, .slice A xs.length c], .agg #[.bool n2, .slice B ys.length d]] w (RetTwo3 w.heap.size w (quoV n1 xs n2 ys) (remV n1 xs n2 ys) (quoE n1 xs n2 ys)) := by
  unfold quoV remV quoE
  by_cases o : (okI n1 xs && okI n2 ys) = true
  · rw [if_pos o, if_pos o, if_pos o]
    have o' := Bool.and_eq_true_iff.1 o
    by_cases hy : ys.length = 0
    · rw [if_pos hy, if_pos hy, if_pos hy]
      exact whole_QuoRem_nought n1 n2 A B c d xs ys o (List.eq_nil_of_length_eq_zero hy) w h g
    · rw [if_neg hy, if_neg hy, if_neg hy]
      exact whole_QuoRem_ok n1 n2 A B c d xs ys o'.1 o'.2 (fun e => hy (by rw [e]; rfl)) _ _ (Lib.hid rfl) (Lib.hid rfl) w h g
  · rw [if_neg o, if_neg o, if_neg o]
    exact whole_QuoRem_bad n1 n2 A B c d xs ys (by simpa using o) w h g

set_option maxRecDepth 100000 in
set_option maxHeartbeats 2000000 in
theorem whole_GCD_ok (n1 n2 : Bool) (A B : Option Addr) (c d : Nat) (xs ys : List Nat) (o1 : okI n1 xs = true) (o2 : okI n2 ys = true) (z : Int) (HZ : Hid (z = ((Nat.gcd (val xs) (val ys) : Nat) : Int))) (w : World) (h : Raw w A c xs) (g : Raw w B d ys) :
    Calls Tryd.prog 11 #[.agg #[.bool n1, .slice A xs.length c], .agg #[.bool n2, .slice B ys.length d]] w (RetInt2 w.heap.size w z 0) := by
  have hcx := (okI_true.1 o1).2.1
  have hcy := (okI_true.1 o2).2.1
  have hlx := (okI_true.1 o1).1
  have hly := (okI_true.1 o2).1
  have C0 := fun (V : World) (h : Raw V A c xs) (g : Raw V B d ys) => whole_fine_any n1 n2 A B c d xs ys V h g
  rw [o1, o2, Bool.and_self] at C0
  have H0 := Lib.hid C0
  have H1 := Lib.hid (fun (V : World) (h : Raw V A c xs) (g : Raw V B d ys) => show Calls Tryd.prog 28 #[.agg #[.bool n1, .slice A xs.length c], .agg #[.bool n2, .slice B ys.length d]] V (RetInt V.heap.size V z) from by rw [HZ.out]; exact exact_Common n1 n2 A B c d xs ys (by omega) (by omega) V h g)
  have HH := Lib.hid (And.intro h g)
  clear C0 o1 o2 hcx hcy hlx hly HZ
  have px := (((Pair.new w 24 (.bool n1) (.slice A xs.length c)).alloc (.cells #[.bool n2, .slice B ys.length d] 24)).alloc (.cells #[.bool false, .slice none 0 0] 24))
  have py := ((Pair.new (w.alloc (.cells #[.bool n1, .slice A xs.length c] 24)) 24 (.bool n2) (.slice B ys.length d)).alloc (.cells #[.bool false, .slice none 0 0] 24))
  have pq := (Pair.new ((w.alloc (.cells #[.bool n1, .slice A xs.length c] 24)).alloc (.cells #[.bool n2, .slice B ys.length d] 24)) 24 (.bool false) (.slice none 0 0))
  have rx := (((h.alloc (.cells #[.bool n1, .slice A xs.length c] 24)).alloc (.cells #[.bool n2, .slice B ys.length d] 24)).alloc (.cells #[.bool false, .slice none 0 0] 24))
  have ry := (((g.alloc (.cells #[.bool n1, .slice A xs.length c] 24)).alloc (.cells #[.bool n2, .slice B ys.length d] 24)).alloc (.cells #[.bool false, .slice none 0 0] 24))
  have b0 := (((Below.refl w.heap.size w).alloc (Nat.le_refl _) (.cells #[.bool n1, .slice A xs.length c] 24)).alloc (by simp) (.cells #[.bool n2, .slice B ys.length d] 24)).alloc (by simp; omega) (.cells #[.bool false, .slice none 0 0] 24)
  simp only [World.size_alloc] at py pq
  clear h g
  go_enter Tryd.func11, Tryd.ntmps11
  go_wp2_with fail
  obtain ⟨W, E⟩ : ∃ W, W = (((w.alloc (.cells #[.bool n1, .slice A xs.length c] 24)).alloc (.cells #[.bool n2, .slice B ys.length d] 24)).alloc (.cells #[.bool false, .slice none 0 0] 24)) := ⟨_, rfl⟩
  rw [← E] at px py pq b0 rx ry ⊢
  have hsz : W.heap.size = w.heap.size + 3 := by rw [E]; simp
  clear E
  have PX := Lib.hid px
  have PY := Lib.hid py
  have PQ := Lib.hid pq
  have B0 := Lib.hid b0
  have RX := Lib.hid rx
  have RY := Lib.hid ry
  obtain ⟨l1, x0, x1, -, -⟩ := px.facts
  obtain ⟨l2, y0, y1, -, -⟩ := py.facts
  clear px py pq rx ry b0
  go_wp2_with (first
    | (go_at_call 27; with_reducible refine (H0.out _ RX.out RY.out).mono ?_; rintro e w1 ⟨rfl, hb⟩; have rx := RX.out.below hb; have ry := RY.out.below hb; obtain ⟨l1, x0, x1, -, -⟩ := (PX.out.below hb).facts; obtain ⟨l2, y0, y1, -, -⟩ := (PY.out.below hb).facts)
    | (go_at_call 28; refine (H1.out _ rx ry).mono ?_; rintro e w2 ⟨v, rfl, hI, hb2⟩; obtain ⟨b1, A1, m1, c1, rfl⟩ := hI.shape; have pq := (PQ.out.below hb).below hb2; obtain ⟨l3, q0, q1, f0, f1⟩ := pq.facts))
  have hs1 := hb.size
  have hq := pq.store (.bool b1) (.slice A1 m1 c1)
  obtain ⟨_, k0, k1, _, _⟩ := hq.facts
  have hbf := below2 (belowTo (belowTo B0.out hb) hb2) (show w.heap.size ≤ w.heap.size + 1 + 1 by omega) (.bool b1) (.slice A1 m1 c1)
  exact bodyPost_ret (by simp [results, Tryd.results11, go_sem, k0, k1]) rfl ⟨_, rfl, (hI.pair (by omega)).base (by omega), hbf⟩

set_option maxRecDepth 100000 in
set_option maxHeartbeats 1000000 in
theorem whole_GCD_bad (n1 n2 : Bool) (A B : Option Addr) (c d : Nat) (xs ys : List Nat) (o : (okI n1 xs && okI n2 ys) = false) (w : World) (h : Raw w A c xs) (g : Raw w B d ys) :
    Calls Tryd.prog 11 #[.agg #[.bool n1, .slice A xs.length c], .agg #[.bool n2, .slice B ys.length d]] w (RetInt2 w.heap.size w 0 1) := by
  have C0 := fun (V : World) (h : Raw V A c xs) (g : Raw V B d ys) => whole_fine_any n1 n2 A B c d xs ys V h g
  rw [o] at C0
  have H0 := Lib.hid C0
  clear C0 o
  have px := (((Pair.new w 24 (.bool n1) (.slice A xs.length c)).alloc (.cells #[.bool n2, .slice B ys.length d] 24)).alloc (.cells #[.bool false, .slice none 0 0] 24))
  have py := ((Pair.new (w.alloc (.cells #[.bool n1, .slice A xs.length c] 24)) 24 (.bool n2) (.slice B ys.length d)).alloc (.cells #[.bool false, .slice none 0 0] 24))
  have pq := (Pair.new ((w.alloc (.cells #[.bool n1, .slice A xs.length c] 24)).alloc (.cells #[.bool n2, .slice B ys.length d] 24)) 24 (.bool false) (.slice none 0 0))
  have rx := (((h.alloc (.cells #[.bool n1, .slice A xs.length c] 24)).alloc (.cells #[.bool n2, .slice B ys.length d] 24)).alloc (.cells #[.bool false, .slice none 0 0] 24))
  have ry := (((g.alloc (.cells #[.bool n1, .slice A xs.length c] 24)).alloc (.cells #[.bool n2, .slice B ys.length d] 24)).alloc (.cells #[.bool false, .slice none 0 0] 24))
  have b0 := (((Below.refl w.heap.size w).alloc (Nat.le_refl _) (.cells #[.bool n1, .slice A xs.length c] 24)).alloc (by simp) (.cells #[.bool n2, .slice B ys.length d] 24)).alloc (by simp; omega) (.cells #[.bool false, .slice none 0 0] 24)
  simp only [World.size_alloc] at py pq
  clear h g
  go_enter Tryd.func11, Tryd.ntmps11
  go_wp2_with fail
  obtain ⟨W, E⟩ : ∃ W, W = (((w.alloc (.cells #[.bool n1, .slice A xs.length c] 24)).alloc (.cells #[.bool n2, .slice B ys.length d] 24)).alloc (.cells #[.bool false, .slice none 0 0] 24)) := ⟨_, rfl⟩
  rw [← E] at px py pq b0 rx ry ⊢
  have hsz : W.heap.size = w.heap.size + 3 := by rw [E]; simp
  clear E
  have PX := Lib.hid px
  have PY := Lib.hid py
  have PQ := Lib.hid pq
  have B0 := Lib.hid b0
  have RX := Lib.hid rx
  have RY := Lib.hid ry
  obtain ⟨l1, x0, x1, -, -⟩ := px.facts
  obtain ⟨l2, y0, y1, -, -⟩ := py.facts
  clear px py pq rx ry b0
  go_wp2_with (first | (go_at_call 27; with_reducible refine (H0.out _ RX.out RY.out).mono ?_; rintro e w1 ⟨rfl, hb⟩; have pq := PQ.out.below hb; obtain ⟨l3, z0, z1, f0, f1⟩ := pq.facts))
  have hq := pq.store (.bool false) (.slice none 0 0)
  obtain ⟨_, k0, k1, _, _⟩ := hq.facts
  exact bodyPost_ret (by simp [results, Tryd.results11, go_sem, k0, k1]) rfl ⟨_, rfl, IntOwn.nought _ _, below2 (belowTo B0.out hb) (by omega) _ _⟩

theorem whole_GCD (n1 n2 : Bool) (A B : Option Addr) (c d : Nat) (xs ys : List Nat) (w : World) (h : Raw w A c xs) (g : Raw w B d ys) :
    Calls Tryd.prog 11 #[.agg #[.bool n1, .slice A xs.length c], .agg #[.bool n2, .slice B ys.length d]] w (RetInt2 w.heap.size w (gcdV n1 xs n2 ys) (gcdE n1 xs n2 ys)) := by
  unfold gcdV gcdE
  by_cases o : (okI n1 xs && okI n2 ys) = true
  · rw [if_pos o, if_pos o]
    have o' := Bool.and_eq_true_iff.1 o
    exact whole_GCD_ok n1 n2 A B c d xs ys o'.1 o'.2 _ (Lib.hid rfl) w h g
  · rw [if_neg o, if_neg o]
    exact whole_GCD_bad n1 n2 A B c d xs ys (by simpa using o) w h g

end Go.Proofs.YtpcdiijmhllejaaDoor
