/- Several texts in one: RefQuo, RefDouble, RefCommon, Common, Answer. -/
import Derived.Test.YtdonecnhdkjniaaGreatDoorGy09
import Derived.Deep.LoopGhost
set_option maxRecDepth 100000
set_option maxHeartbeats 8000000
namespace Go.Proofs.YtdonecnhdkjniaaGreatDoor
open Go.RowKit



structure Cm1 (w wr : World) (X Y : Nat) (A1 : Option Addr) (c1 a : Nat) (A2 : Option Addr) (c2 b t : Nat) : Prop where
 ra : Zr wr A1 c1 (Za a)
 rb : Zr wr A2 c2 (Za b)
 low : Below w.heap.size w wr
 pa : 0 < a
 pb : 0 < b
 gcd : Nat.gcd a b * 2 ^ t = Nat.gcd X Y
 la : a * 2 ^ t <= X
 lb : b <= Y
structure Cm2 (w wr : World) (g : Nat) (A1 : Option Addr) (c1 a : Nat) (A2 : Option Addr) (c2 b L : Nat) : Prop where
 ra : Zr wr A1 c1 (Za a)
 rb : Zr wr A2 c2 (Za b)
 low : Below w.heap.size w wr
 pb : 0 < b
 odd : a % 2 = 1 ∨ b % 2 = 1
 gcd : Nat.gcd a b = g
 la : (Za a).length <= L
 lb : (Za b).length <= L

structure Held2 (w wr : World) (ba bb : Nat) (A1 : Option Addr) (c1 x : Nat) (A2 : Option Addr) (c2 y : Nat) : Prop where
 pa : Zp wr ba 24 (.bool false) (.slice A1 (Za x).length c1)
 pb : Zp wr bb 24 (.bool false) (.slice A2 (Za y).length c2)
 one : Y6 wr w.heap.size (.slice A1 (Za x).length c1) x
 two : Y6 wr w.heap.size (.slice A2 (Za y).length c2) y
 low : Below w.heap.size w wr
 la : w.heap.size + 3 <= ba
 lb : w.heap.size + 3 <= bb
 ne : ba ≠ bb
 res : Zp wr (w.heap.size + 2) 24 (.bool false) (.slice none 0 0)
theorem Y6.drew {w : World} {base n : Nat} {v : Value} (h : Y6 w base v n) : Y6 w.drew base v n := h.below (Below.refl _ _).drew
theorem Held2.drew {w wr : World} {ba bb : Nat} {A1 A2 : Option Addr} {c1 x c2 y : Nat} (h : Held2 w wr ba bb A1 c1 x A2 c2 y) : Held2 w wr.drew ba bb A1 c1 x A2 c2 y :=
 ⟨h.pa.drew, h.pb.drew, h.one.drew, h.two.drew, h.low.drew, h.la, h.lb, h.ne, h.res.drew⟩

theorem exact_Common (n1 n2 : Bool) (A B : Option Addr) (c d : Nat) (xs ys : List Nat) (hlx : xs.length <= 536870912) (hly : ys.length <= 536870912) (w : World) (h : Zr w A c xs) (g : Zr w B d ys) :
   Calls Tryz.prog 107 #[.agg #[.bool n1, .slice A xs.length c], .agg #[.bool n2, .slice B ys.length d]] w (Z1 w.heap.size w ((Nat.gcd (val xs) (val ys) : Nat) : Int)) := by
 have px := ((Zp.new w 24 (.bool n1) (.slice A xs.length c)).alloc (.cells #[.bool n2, .slice B ys.length d] 24)).alloc (.cells #[.bool false, .slice none 0 0] 24)
 have py := (Zp.new (w.alloc (.cells #[.bool n1, .slice A xs.length c] 24)) 24 (.bool n2) (.slice B ys.length d)).alloc (.cells #[.bool false, .slice none 0 0] 24)
 have pr := Zp.new ((w.alloc (.cells #[.bool n1, .slice A xs.length c] 24)).alloc (.cells #[.bool n2, .slice B ys.length d] 24)) 24 (.bool false) (.slice none 0 0)
 have rx := (((h.alloc (.cells #[.bool n1, .slice A xs.length c] 24)).alloc (.cells #[.bool n2, .slice B ys.length d] 24)).alloc (.cells #[.bool false, .slice none 0 0] 24))
 have ry := (((g.alloc (.cells #[.bool n1, .slice A xs.length c] 24)).alloc (.cells #[.bool n2, .slice B ys.length d] 24)).alloc (.cells #[.bool false, .slice none 0 0] 24))
 have b0 := (((Below.refl w.heap.size w).alloc (Nat.le_refl _) (.cells #[.bool n1, .slice A xs.length c] 24)).alloc (by simp) (.cells #[.bool n2, .slice B ys.length d] 24)).alloc (by simp; omega) (.cells #[.bool false, .slice none 0 0] 24)
 simp only [World.size_alloc] at py pr
 have HLX := Hd h.limbs
 have HLY := Hd g.limbs
 clear h g
 go_enter Tryz.func107, Tryz.ntmps107
 go_wp2_with fail
 obtain ⟨W, E⟩ : ∃ W, W = ((w.alloc (.cells #[.bool n1, .slice A xs.length c] 24)).alloc (.cells #[.bool n2, .slice B ys.length d] 24)).alloc (.cells #[.bool false, .slice none 0 0] 24) := ⟨_, rfl⟩
 rw [<- E] at px py pr b0 rx ry ⊢
 have hszW : w.heap.size + 3 <= W.heap.size := by rw [E]; simp
 clear E
 have PX := Hd px
 have PY := Hd py
 have PR := Hd pr
 have B0 := Hd b0
 have H1 := Hd (fun (V : World) (hV : Below W.heap.size W V) => (exact_own false A c xs (by omega) V (rx.below hV)).mono (R' := Z1 w.heap.size V ((val xs : Nat) : Int)) (by rintro e w' ⟨v, rfl, hv, hb⟩; exact ⟨v, rfl, hv.base (by have := hV.size; omega), hb⟩))
 have H2 := Hd (fun (V : World) (hV : Below W.heap.size W V) => (exact_own false B d ys (by omega) V (ry.below hV)).mono (R' := Z1 w.heap.size V ((val ys : Nat) : Int)) (by rintro e w' ⟨v, rfl, hv, hb⟩; exact ⟨v, rfl, hv.base (by have := hV.size; omega), hb⟩))
 obtain ⟨X, hX⟩ : ∃ X, X = val xs := ⟨_, rfl⟩
 obtain ⟨Y, hY⟩ : ∃ Y, Y = val ys := ⟨_, rfl⟩
 rw [<- hX] at H1
 rw [<- hY] at H2
 have HLx := Hd (show (Za X).length <= 536870912 by rw [hX]; exact Nat.le_trans (Xp HLX.out) hlx)
 have HLy := Hd (show (Za Y).length <= 536870912 by rw [hY]; exact Nat.le_trans (Xp HLY.out) hly)
 have HXY := Hd (And.intro hX hY)
 clear px py pr rx ry b0 HLX HLY hX hY
 refine Zf [.val (.pointer (some ⟨w.heap.size, 1, none⟩)) [], .val (.slice A xs.length c) [], .any false (fun u V => Zc V w.heap.size u (X : Int)) [],
     .val (.pointer (some ⟨w.heap.size + 1, 1, none⟩)) [], .val (.slice B ys.length d) [], .any false (fun u V => Zc V w.heap.size u (Y : Int)) [], .new 24 2, .new 24 2, .put 24 2 6 2 [], .put 24 2 7 5 []]
   W.heap.size W [24] (fun _ _ => False) _ Zg (Nat.le_refl _) (Below.refl _ _) (Zq.refl _ _ _) rfl ?_ ?_ ?_ ?_ ?_ ?_ ?_ ?_ rfl (by simp [ZH]) ?_ ?_ ?_ ?_
 iterate 8 kernel_rfl
 . simp only [Zu, and_true]
   exact ⟨fun u V V' h k => h.kept k (by decide), fun u V V' h k => h.kept k (by decide)⟩
 . simp only [ZR]
 . simp [Zz, Yj, Zh, ZA, Zl]
   repeat' (first | apply And.intro | (intro (u : Value)) | (intro (u : Nat)))
   all_goals try exact ⟨_, _, _, rfl, rfl, rfl, rfl, intInfo⟩
   all_goals try exact allocInt rfl
   all_goals first
   | (intro V hV hK
      obtain ⟨-, -, a1, -, -⟩ := (PX.out.below hV).facts
      obtain ⟨-, -, b1, -, -⟩ := (PY.out.below hV).facts
      have HV := Hd hV
      clear hV
      go_simp
      first
      | exact Below.refl _ _
      | ((with_reducible refine (H1.out V HV.out).mono ?_); rintro _ _ ⟨_, rfl, x⟩; exact x)
      | ((with_reducible refine (H2.out V HV.out).mono ?_); rintro _ _ ⟨_, rfl, x⟩; exact x))
   | exact fun _ _ _ (h : Zc _ _ _ _) => h.cells
 . simp [Yn, ZD, Zh, ZA, Zl]
   intro u v ba hba bb hbb V hV hK h1 h2 p1 p2 _ _ hne
   have hne2 : ba ≠ bb := by
     intro e
     subst e
     exact hne.new 6 7 rfl rfl (by decide) rfl
   obtain ⟨A1, c1, rfl, o1⟩ := h1.nat
   obtain ⟨A2, c2, rfl, o2⟩ := h2.nat
   have HH := Hd (show Held2 w V ba bb A1 c1 X A2 c2 Y from ⟨⟨p1⟩, ⟨p2⟩, o1, o2, Zb B0.out hV, by omega, by omega, hne2, PR.out.below hV⟩)
   clear h1 h2 p1 p2 hne hne2 o1 o2 hV hK hba hbb
   go_wp2_with fail
   go_loopg [] (Y) (fun k wr => ∃ A1 c1 x A2 c2, Hid (Held2 w wr ba bb A1 c1 x A2 c2 k /\ Nat.gcd x k = Nat.gcd X Y /\ (Za x).length <= 536870912 /\ (Za k).length <= 536870912))
   case atStart => exact ⟨A1, c1, X, A2, c2, Hd ⟨HH.out, rfl, HLx.out, HLy.out⟩⟩
   case round =>
     clear HH
     obtain ⟨A1, c1, x, A2, c2, HR⟩ := hrel
     obtain ⟨hh, hg, hl1, hl2⟩ := HR.out
     have HG := Hd hg
     have HH := Hd hh
     obtain ⟨l1, a0, a1, f0, f1⟩ := hh.pa.facts
     obtain ⟨l2, b0, b1, g0, g1⟩ := hh.pb.facts
     clear HR hh hg
     rcases Nat.eq_zero_or_pos gk with hk | hk
     . subst hk
       have hln : (Za 0).length = 0 := by simp [YF]
       rw [hln] at b1
       have hone := HH.out.one
       have hlow := HH.out.low
       have hxg : x = Nat.gcd X Y := by rw [<- HG.out, Nat.gcd_zero_right]
       have hres := HH.out.res
       obtain ⟨l3, q0, q1, r0, r1⟩ := hres.facts
       have HO := Hd (hone.pair hres (.bool false) (.slice A1 (Za x).length c1))
       have HB := Hd (Yh hlow (show w.heap.size <= w.heap.size + 2 by omega) (.bool false) (.slice A1 (Za x).length c1))
       have HQ := Hd (hres.store (.bool false) (.slice A1 (Za x).length c1))
       have hfin : Zc ((wr.setCell ⟨w.heap.size + 2, 0, none⟩ (.bool false)).setCell ⟨w.heap.size + 2, 1, none⟩ (.slice A1 (Za x).length c1)) w.heap.size (.agg #[.bool false, .slice A1 (Za x).length c1]) ((Nat.gcd (val xs) (val ys) : Nat) : Int) := by
         rw [<- HXY.out.1, <- HXY.out.2, <- hxg]; exact HO.out.int
       have HF := Hd hfin
       clear hln hone hlow hxg hres HH HG hfin HO
       go_wp2_with fail
       obtain ⟨_, k0, k1, _, _⟩ := HQ.out.facts
       exact bodyPost_ret (by simp [results, Tryz.results107, go_sem, k0, k1]) rfl ⟨_, rfl, HF.out, HB.out⟩
     . have hlk : (0 : Int) < ((Za gk).length : Int) := by
         have : (Za gk).length ≠ 0 := fun h0 => by
           have := YL.1 (List.eq_nil_of_length_eq_zero h0)
           omega
         omega
       have hne : Za gk ≠ [] := fun h0 => by rw [h0] at hlk; simp at hlk
       have C1 := Hd (exact_Divide false false A1 A2 c1 c2 (Za x) (Za gk) (Z6 _) (Z6 _) hne (by omega) (by omega) wr HH.out.one.raw_ HH.out.two.raw_)
       go_wp2_with fail
       refine C1.out.mono ?_
       rintro e w1 ⟨v1, v2, rfl, hI, hb⟩
       have hz : (Zt false (Za x)).tmod (Zt false (Za gk)) = ((x % gk : Nat) : Int) := by
         unfold Zt
         simp only [Z3, Bool.false_eq_true, if_false]
         rw [Int.ofNat_tmod]
       obtain ⟨b9, A9, k9, c9, rfl⟩ := hI.one.shape
       have hI2 := hI.two
       rw [hz] at hI2
       obtain ⟨A3, c3, rfl, o3⟩ := hI2.nat
       have HA := Hd (HH.out.pa.below hb)
       have HBb := Hd (HH.out.pb.below hb)
       have HRs := Hd (HH.out.res.below hb)
       have HO2 := Hd (HH.out.two.below hb)
       have HO3 := Hd (o3.base (b' := w.heap.size) HH.out.low.size)
       have HLo := Hd (Zb HH.out.low hb)
       have hs1 := HA.out.size
       have hs2 := HBb.out.size
       clear hz hI hI2 o3 hb l1 a0 a1 f0 f1 l2 b0 b1 g0 g1 C1
       go_wp2_with fail
       obtain ⟨W2, E2⟩ : ∃ W2, W2 = (w1.alloc (.cells #[.bool b9, .slice A9 k9 c9] 24)).alloc (.cells #[.bool false, .slice A3 (Za (x % gk)).length c3] 24) := ⟨_, rfl⟩
       have hp8 := Zp.new (w1.alloc (.cells #[.bool b9, .slice A9 k9 c9] 24)) 24 (.bool false) (.slice A3 (Za (x % gk)).length c3)
       have hb2 := ((Below.refl w1.heap.size w1).alloc (Nat.le_refl _) (.cells #[.bool b9, .slice A9 k9 c9] 24)).alloc (by simp) (.cells #[.bool false, .slice A3 (Za (x % gk)).length c3] 24)
       rw [<- E2] at hp8 hb2 ⊢
       simp only [World.size_alloc] at hp8
       clear E2
       have pa := HA.out.below hb2
       have pb := HBb.out.below hb2
       have o2 := HO2.out.below hb2
       have o3 := HO3.out.below hb2
       have hlw := HLo.out.size
       have hn8 : bb ≠ w1.heap.size + 1 := by omega
       have hn8a : ba ≠ w1.heap.size + 1 := by omega
       have ne := HH.out.ne
       have HN := Hd (show Held2 w ((((W2.setCell ⟨ba, 0, none⟩ (.bool false)).setCell ⟨ba, 1, none⟩ (.slice A2 (Za gk).length c2)).setCell ⟨bb, 0, none⟩ (.bool false)).setCell ⟨bb, 1, none⟩ (.slice A3 (Za (x % gk)).length c3)) ba bb A2 c2 gk A3 c3 (x % gk) from
         ⟨(pa.store _ _).far ne _ _, (pb.far (Ne.symm ne) _ _).store _ _, (o2.pair pa _ _).pair (pb.far (Ne.symm ne) _ _) _ _, (o3.pair pa _ _).pair (pb.far (Ne.symm ne) _ _) _ _,
           Yh (Yh (Zb HLo.out hb2) (by have := HH.out.la; omega) _ _) (by have := HH.out.lb; omega) _ _, HH.out.la, HH.out.lb, ne,
           (((HRs.out.below hb2).far (by have := HH.out.la; omega) _ _).far (by have := HH.out.lb; omega) _ _)⟩)
       have hgc : Nat.gcd gk (x % gk) = Nat.gcd X Y := by
         rw [<- HG.out, Nat.gcd_comm x gk, Nat.gcd_rec gk x, Nat.gcd_comm]
       have hln : (Za (x % gk)).length <= 536870912 := Nat.le_trans (natL_mono (Nat.le_of_lt (Nat.mod_lt _ hk))) hl2
       have HGC := Hd (And.intro hgc hln)
       have HM := Hd (Nat.mod_lt x hk)
       obtain ⟨m1, a0, a1, f0, f1⟩ := pa.facts
       obtain ⟨m2, b0, b1, g0, g1⟩ := pb.facts
       obtain ⟨m3, d0, d1, -, -⟩ := hp8.facts
       clear pa pb hp8 o2 o3 hgc hln hb2 HA HBb HRs HO2 HO3 HLo HG HH hlw
       go_region
       all_goals (go_wp2_with fail)
       all_goals (go_roundg (x % gk))
       case measure => exact HM.out
       case rel => exact ⟨A2, c2, gk, A3, c3, Hd ⟨HN.out.drew, HGC.out.1, hl2, HGC.out.2⟩⟩

end Go.Proofs.YtdonecnhdkjniaaGreatDoor
