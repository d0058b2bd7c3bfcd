/- Several texts in one: FOps, FClos, FPlain, FSame. -/
import Derived.Test.YtadmoheohmbieaaDoorBo19
import Derived.Test.YtadmoheohmbieaaDoorBo23
import Derived.Test.YtadmoheohmbieaaDoorBo27
set_option maxRecDepth 100000
set_option maxHeartbeats 8000000
/- The four operations of package frac; Cmp. (Written by wip/frac/genfops.py.) -/
namespace Go.Proofs.YtadmoheohmbieaaDoor
open Go.RowKit

theorem Reads.blk {w : World} {g n size : Nat} {t : TypeId} {cs : List Value} (h : Blk w g t cs.toArray) (hl : cs.length = n * size) : Reads w w.heap.size size (some ⟨g, 0, none⟩) n cs :=
  ⟨hl, fun _ => ⟨⟨g, 0, none⟩, rfl, h.lt, fun j u hu => by
    rw [show (⟨g, 0, none⟩ : Addr).add j = ⟨g, j, none⟩ by unfold Addr.add; split <;> simp_all, h.cell j, ← hu]
    simp⟩⟩
theorem FracIn.quad {w : World} {base g : Nat} {v a b c d : Value} {n m : Int} (h : FracIn w base v n m) (q : Quad w g a b c d) (x y z u : Value) : FracIn ((((w.setCell ⟨g, 0, none⟩ x).setCell ⟨g, 1, none⟩ y).setCell ⟨g, 2, none⟩ z).setCell ⟨g, 3, none⟩ u) base v n m := by
  obtain ⟨A, k, B, e, h1, h2, h3⟩ := h.form
  exact ⟨A, k, B, e, h1, h2.quad q _ _ _ _, h3.quad q _ _ _ _⟩
theorem FracIn.below {w w' : World} {base : Nat} {v : Value} {n d : Int} (h : FracIn w base v n d) (hb : Below w.heap.size w w') : FracIn w' base v n d := by
  obtain ⟨A, k, B, e, h1, h2, h3⟩ := h.form
  exact ⟨A, k, B, e, h1, h2.below hb, h3.below hb⟩

theorem ratio_ChecksI (l : List FLoc) (ks : Nat → Bool) (A : Option Addr) (c : Nat) (hl : l.length ≤ 9223372036854775807) (w : World) (h : Reads w w.heap.size 4 A l.length (cellsF l))
    (H : ∀ q (hq : q < l.length), ∀ V, Below w.heap.size w V → Calls Tryd.prog 19 #[l[q].val] V fun e w' => e = .returned (.int .i64 (if ks q then 0 else 1)) ∧ Below V.heap.size V w') :
    Calls Tryd.prog 22 #[.slice A l.length c] w fun e w' => e = .returned (.bool ((List.range l.length).all ks)) ∧ Below w.heap.size w w' := by
  have HR := Hd h
  have HS := Hd H
  clear h H
  have H0 := Hd (by intro j hj; omega : ∀ j (_ : j < 0), (h : j < l.length) → ks j = true)
  go_enter Tryd.func22, Tryd.ntmps22
  go_wp2_with fail
  go_loopw [7] (fun s wr => ∃ i : Nat, s = .int .i64 i ∧ i ≤ l.length ∧ Hid (∀ j (_ : j < i), (h : j < l.length) → ks j = true) ∧ Below w.heap.size w wr) (fun s _ => l.length - (intOf s).toNat)
  case atStart => exact ⟨0, rfl, Nat.zero_le _, H0, Below.refl _ _⟩
  case round =>
    obtain ⟨i, rfl, hi, HN, hb⟩ := hrel
    clear H0
    by_cases hlt : i < l.length
    · have a0 : (0 : Int) ≤ (i : Int) := by omega
      have a1 : (i : Int) < (l.length : Int) := by omega
      obtain ⟨e0, e1, e2, e3⟩ := cellsF_get l i hlt
      obtain ⟨ad, rfl, hbl, c0, c1, c2, c3⟩ := (HR.out.below hb).row4 hlt e0 e1 e2 e3
      have C := HS.out i hlt
      unfold FLoc.val at C
      have HB := Hd hb
      clear e0 e1 e2 e3 hbl hb
      by_cases hlong : ks i = true
      · rw [if_pos hlong] at C
        have C := Hd C
        have HL := Hd hlong
        clear hlong
        go_wp2_with (first | (go_at_call 19; with_reducible refine (C.out _ (HB.out.alloc HB.out.size _)).mono ?_; rintro e w' ⟨rfl, hb'⟩; have B1 := belowTo (HB.out.alloc HB.out.size _) hb'))
        go_roundw
        case rel =>
          refine ⟨i + 1, by go_num, hlt, Hd fun j hj h => ?_, B1⟩
          rcases (by omega : j < i ∨ j = i) with hj | rfl
          · exact HN.out j hj h
          · exact HL.out
        case measure => simp [intOf]; omega
      · rw [if_neg hlong] at C
        have C := Hd C
        have HL := Hd hlong
        clear hlong
        go_wp2_with (first | (go_at_call 19; with_reducible refine (C.out _ (HB.out.alloc HB.out.size _)).mono ?_; rintro e w' ⟨rfl, hb'⟩; have B1 := belowTo (HB.out.alloc HB.out.size _) hb'))
        go_ret
        have e : (List.range l.length).all ks = false := List.all_eq_false.2 ⟨i, List.mem_range.2 hlt, HL.out⟩
        exact ⟨by rw [e]; rfl, B1⟩
    · have HB := Hd hb
      clear hb
      go_wp2_with fail
      go_ret
      have e : (List.range l.length).all ks = true := List.all_eq_true.2 fun x hx => by
        have hj := List.mem_range.1 hx
        exact HN.out x (by omega) hj
      exact ⟨by rw [e]; rfl, HB.out⟩

theorem checks_two (n1 n2 n3 n4 : Bool) (A B A2 B2 : Option Addr) (c e0 c2 e2 : Nat) (xs ys us vs : List Nat) (V : World) (g' : Nat) (hx : Raw V A c xs) (kx : Raw V B e0 ys) (hy : Raw V A2 c2 us) (ky : Raw V B2 e2 vs) (hg : V.heap.size = g') :
    Calls Tryd.prog 22 #[.slice (some ⟨g', 0, none⟩) 2 2] (V.alloc (.cells #[.bool n1, .slice A xs.length c, .bool n2, .slice B ys.length e0, .bool n3, .slice A2 us.length c2, .bool n4, .slice B2 vs.length e2] 26)) fun e w' => e = .returned (.bool (chkE n1 n2 xs ys == 0 && chkE n3 n4 us vs == 0)) ∧ Below (V.alloc (.cells #[.bool n1, .slice A xs.length c, .bool n2, .slice B ys.length e0, .bool n3, .slice A2 us.length c2, .bool n4, .slice B2 vs.length e2] 26)).heap.size (V.alloc (.cells #[.bool n1, .slice A xs.length c, .bool n2, .slice B ys.length e0, .bool n3, .slice A2 us.length c2, .bool n4, .slice B2 vs.length e2] 26)) w' := by
  have := ratio_ChecksI [⟨n1, A, xs.length, c, n2, B, ys.length, e0⟩, ⟨n3, A2, us.length, c2, n4, B2, vs.length, e2⟩] (fun i => if i = 0 then chkE n1 n2 xs ys == 0 else chkE n3 n4 us vs == 0) (some ⟨g', 0, none⟩) 2 (by simp) (V.alloc (.cells #[.bool n1, .slice A xs.length c, .bool n2, .slice B ys.length e0, .bool n3, .slice A2 us.length c2, .bool n4, .slice B2 vs.length e2] 26))
    (by subst hg; exact Reads.blk (Blk.new V 26 #[.bool n1, .slice A xs.length c, .bool n2, .slice B ys.length e0, .bool n3, .slice A2 us.length c2, .bool n4, .slice B2 vs.length e2]) rfl)
    (by
      intro q hq W hW
      rcases (by simp at hq; omega : q = 0 ∨ q = 1) with rfl | rfl
      · have := ratio_Check n1 n2 A B c e0 xs ys W ((hx.alloc _).below hW) ((kx.alloc _).below hW)
        rw [chkE_bool] at this
        exact this
      · have := ratio_Check n3 n4 A2 B2 c2 e2 us vs W ((hy.alloc _).below hW) ((ky.alloc _).below hW)
        rw [chkE_bool] at this
        exact this)
  simpa [List.range, List.range.loop] using this

structure Fine (n d : Int) : Prop where
  chk : chkE (decide (n < 0)) (decide (d < 0)) (natL n.natAbs) (natL d.natAbs) = 0
  num : Fit n
  den : Fit d
  pos : 0 < d
  low : gcdZ n d = 1
theorem fine_of {n1 n2 : Bool} {xs ys : List Nat} (hx : Limbs xs) (hy : Limbs ys) (h0 : chkE n1 n2 xs ys = 0) : ∃ n d, Fine n d ∧ n1 = decide (n < 0) ∧ n2 = decide (d < 0) ∧ xs = natL n.natAbs ∧ ys = natL d.natAbs := by
  have hc := h0
  unfold chkE mkOk at h0
  cases o1 : okI n1 xs with
  | false => rw [o1] at h0; simp at h0
  | true =>
    cases o2 : okI n2 ys with
    | false => rw [o1, o2] at h0; simp at h0
    | true =>
      obtain ⟨a1, a2, a3⟩ := ok_num hx o1
      obtain ⟨b1, b2, b3⟩ := ok_num hy o2
      rw [o1, o2] at h0
      simp only [Bool.and_self, if_true] at h0
      generalize ival n1 xs = n at a1 a2 a3 h0
      generalize ival n2 ys = d at b1 b2 b3 h0
      subst a1 a2 b1 b2
      split at h0
      · next h1 => exact ⟨n, d, ⟨hc, a3, b3, h1.1, h1.2⟩, rfl, rfl, rfl, rfl⟩
      · simp at h0
def ansN (n d : Int) : Int := if lz n ≤ 2048 ∧ lz d ≤ 2048 then n else 0
def ansD (n d : Int) : Int := if lz n ≤ 2048 ∧ lz d ≤ 2048 then d else 0
def ansK (n d : Int) : Int := if lz n ≤ 2048 ∧ lz d ≤ 2048 then 0 else 4
theorem frac_answered (n d : Int) (A B : Option Addr) (c e0 : Nat) (w : World) (h : Raw w A c (natL n.natAbs)) (g : Raw w B e0 (natL d.natAbs)) :
    Calls Tryd.prog 45 #[.agg #[.bool (decide (n < 0)), .slice A (natL n.natAbs).length c, .bool (decide (d < 0)), .slice B (natL d.natAbs).length e0]] w (RetFracOwn2 w.heap.size w (ansN n d) (ansD n d) (ansK n d)) := by
  unfold ansN ansD ansK
  by_cases hl : lz n ≤ 2048 ∧ lz d ≤ 2048
  · simp only [if_pos hl]; exact frac_answered_fits n d A B c e0 w h g hl.1 hl.2
  · simp only [if_neg hl]; exact frac_answered_long n d A B c e0 w h g (by omega)
def RetFracB (w : World) (n d : Int) (b : Bool) (e : Ending) (w' : World) : Prop := ∃ v, e = .returned (.tuple #[v, .bool b]) ∧ FracIn w' 0 v n d ∧ Below w.heap.size w w'

theorem frac_Cmp_good (n d m f k : Int) (A B A2 B2 : Option Addr) (c e0 c2 e2 : Nat) (w : World) (hx : Raw w A c (natL n.natAbs)) (kx : Raw w B e0 (natL d.natAbs)) (hy : Raw w A2 c2 (natL m.natAbs)) (ky : Raw w B2 e2 (natL f.natAbs)) (f1 : Fine n d) (f2 : Fine m f) (hk : k = cmpz (n * f) (m * d)) :
    Calls Tryd.prog 9 #[.agg #[.bool (decide (n < 0)), .slice A (natL n.natAbs).length c, .bool (decide (d < 0)), .slice B (natL d.natAbs).length e0], .agg #[.bool (decide (m < 0)), .slice A2 (natL m.natAbs).length c2, .bool (decide (f < 0)), .slice B2 (natL f.natAbs).length e2]] w fun e w' => e = .returned (.int .i64 k) ∧ Below w.heap.size w w' := by
  have hc : (chkE (decide (n < 0)) (decide (d < 0)) (natL n.natAbs) (natL d.natAbs) == 0 && chkE (decide (m < 0)) (decide (f < 0)) (natL m.natAbs) (natL f.natAbs) == 0) = true := by rw [f1.chk, f2.chk]; rfl
  have C1 := fun (V : World) (g' : Nat) (a1 : Raw V A c (natL n.natAbs)) (a2 : Raw V B e0 (natL d.natAbs)) (a3 : Raw V A2 c2 (natL m.natAbs)) (a4 : Raw V B2 e2 (natL f.natAbs)) (hg : V.heap.size = g') => checks_two (decide (n < 0)) (decide (d < 0)) (decide (m < 0)) (decide (f < 0)) A B A2 B2 c e0 c2 e2 (natL n.natAbs) (natL d.natAbs) (natL m.natAbs) (natL f.natAbs) V g' a1 a2 a3 a4 hg
  rw [hc] at C1
  have H1 := Hd C1
  clear C1
  have hl1 : lz n ≤ 2048 := f1.num
  have hl2 : lz d ≤ 2048 := f1.den
  have hl3 : lz m ≤ 2048 := f2.num
  have hl4 : lz f ≤ 2048 := f2.den
  have H2 := Hd (fun (V : World) (a1 : Raw V A c (natL n.natAbs)) (a2 : Raw V B e0 (natL d.natAbs)) (a3 : Raw V A2 c2 (natL m.natAbs)) (a4 : Raw V B2 e2 (natL f.natAbs)) => ratio_Cmp n d m f k A B A2 B2 c e0 c2 e2 V a1 a2 a3 a4 (by omega) (by omega) (by omega) (by omega) hk)
  clear hc hk f1 f2 hl1 hl2 hl3 hl4
  have b0 := (((Below.refl w.heap.size w).alloc (Nat.le_refl _) (.cells #[.bool (decide (n < 0)), .slice A (natL n.natAbs).length c, .bool (decide (d < 0)), .slice B (natL d.natAbs).length e0] 26)).alloc (by simp) (.cells #[.bool (decide (m < 0)), .slice A2 (natL m.natAbs).length c2, .bool (decide (f < 0)), .slice B2 (natL f.natAbs).length e2] 26))
  have p0 := (Quad.new w (.bool (decide (n < 0))) (.slice A (natL n.natAbs).length c) (.bool (decide (d < 0))) (.slice B (natL d.natAbs).length e0)).alloc (.cells #[.bool (decide (m < 0)), .slice A2 (natL m.natAbs).length c2, .bool (decide (f < 0)), .slice B2 (natL f.natAbs).length e2] 26)
  have p1 := Quad.new (w.alloc (.cells #[.bool (decide (n < 0)), .slice A (natL n.natAbs).length c, .bool (decide (d < 0)), .slice B (natL d.natAbs).length e0] 26)) (.bool (decide (m < 0))) (.slice A2 (natL m.natAbs).length c2) (.bool (decide (f < 0))) (.slice B2 (natL f.natAbs).length e2)
  simp only [World.size_alloc] at p1
  have PX := Hd p0
  have PY := Hd p1
  have RX := Hd (hx.below b0)
  have KX := Hd (kx.below b0)
  have RY := Hd (hy.below b0)
  have KY := Hd (ky.below b0)
  have HB := Hd b0
  clear b0 p0 p1 hx kx hy ky
  go_enter Tryd.func9, Tryd.ntmps9
  obtain ⟨W, E⟩ : ∃ W, W = ((w.alloc (.cells #[.bool (decide (n < 0)), .slice A (natL n.natAbs).length c, .bool (decide (d < 0)), .slice B (natL d.natAbs).length e0] 26)).alloc (.cells #[.bool (decide (m < 0)), .slice A2 (natL m.natAbs).length c2, .bool (decide (f < 0)), .slice B2 (natL f.natAbs).length e2] 26)) := ⟨_, rfl⟩
  go_upto_region 1 with fail
  rw [← E] at PX PY RX KX RY KY  HB ⊢
  clear E
  have HS0 := Hd (show w.heap.size ≤ W.heap.size from HB.out.size)
  obtain ⟨l_x, x0, x1, x2, x3, -, -, -, -⟩ := PX.out.facts
  obtain ⟨l_y, y0, y1, y2, y3, -, -, -, -⟩ := PY.out.facts
  go_wp2_with fail
  refine (H1.out W _ RX.out KX.out RY.out KY.out rfl).mono ?_
  rintro e wx1 ⟨rfl, hb⟩
  clear l_x x0 x1 x2 x3
  clear l_y y0 y1 y2 y3
  have hb := ((Below.refl W.heap.size W).alloc (Nat.le_refl _) (.cells #[.bool (decide (n < 0)), .slice A (natL n.natAbs).length c, .bool (decide (d < 0)), .slice B (natL d.natAbs).length e0, .bool (decide (m < 0)), .slice A2 (natL m.natAbs).length c2, .bool (decide (f < 0)), .slice B2 (natL f.natAbs).length e2] 26)).trans (hb.mono (by simp))
  have HS_wx1 := Hd (show W.heap.size ≤ wx1.heap.size from hb.size)
  have PX := Hd (PX.out.below hb)
  have PY := Hd (PY.out.below hb)
  have RX := Hd (RX.out.below hb)
  have KX := Hd (KX.out.below hb)
  have RY := Hd (RY.out.below hb)
  have KY := Hd (KY.out.below hb)
  have HB := Hd (belowTo HB.out hb)
  obtain ⟨l_x, x0, x1, x2, x3, -, -, -, -⟩ := PX.out.facts
  obtain ⟨l_y, y0, y1, y2, y3, -, -, -, -⟩ := PY.out.facts
  go_wp2_with fail
  refine (H2.out wx1 RX.out KX.out RY.out KY.out).mono ?_
  rintro e wx2 ⟨rfl, hb⟩
  clear l_x x0 x1 x2 x3
  clear l_y y0 y1 y2 y3
  have HS_wx2 := Hd (show wx1.heap.size ≤ wx2.heap.size from hb.size)
  have PX := Hd (PX.out.below hb)
  have PY := Hd (PY.out.below hb)
  have RX := Hd (RX.out.below hb)
  have KX := Hd (KX.out.below hb)
  have RY := Hd (RY.out.below hb)
  have KY := Hd (KY.out.below hb)
  have HB := Hd (belowTo HB.out hb)
  go_wp2_with fail
  go_ret
  exact ⟨rfl, HB.out⟩
/- Add, Sub, Mul, Quo of package frac. (Written by wip/frac/genfclos2.py.) -/

structure AlwaysAt (f : FuncId) (u : Value) (V : World) : Prop where
  form : ∃ g, u = .func (.func 42) #[] #[.pointer (some ⟨g, 0, none⟩)] ∧ Blk V g 47 #[.func (.func f) #[] #[]]
theorem AlwaysAt.kept {f : FuncId} {u : Value} {V V' : World} {B : Nat} {Ts : List TypeId} (h : AlwaysAt f u V) (k : KeptV B Ts V V') (hT : 47 ∉ Ts) : AlwaysAt f u V' := by
  obtain ⟨g, h1, h2⟩ := h.form
  exact ⟨g, h1, k.blk h2 hT⟩
structure TupF (base : Nat) (n d k : Int) (u : Value) (V : World) : Prop where
  form : ∃ v, u = .tuple #[v, .int .i64 k] ∧ FracOwn V base v n d
theorem TupF.kept {base : Nat} {n d k : Int} {u : Value} {V V' : World} {B : Nat} {Ts : List TypeId} (h : TupF base n d k u V) (hk : KeptV B Ts V V') (hT : 59 ∉ Ts) : TupF base n d k u V' := by
  obtain ⟨v, h1, h2⟩ := h.form
  exact ⟨v, h1, h2.kept hk hT⟩
theorem FracIn.nought (w : World) (base : Nat) : FracIn w base (.agg #[.bool false, .slice none 0 0, .bool false, .slice none 0 0]) 0 0 := ⟨none, 0, none, 0, rfl, IntOwn.nought _ _, IntOwn.nought _ _⟩
structure BlkH (w : World) (g : Nat) (t : TypeId) (cs : Array Value) : Prop where
  blk : Blk w g t cs
theorem BlkH.below {w w' : World} {g : Nat} {t : TypeId} {cs : Array Value} (h : BlkH w g t cs) (hb : Below w.heap.size w w') : BlkH w' g t cs := ⟨h.blk.below hb h.blk.lt⟩

theorem always_any (k : FuncId) (w : World) : Calls Tryd.prog 24 #[.func (.func k) #[] #[]] w fun e w' => ∃ v, e = .returned v ∧ AlwaysAt k v w' ∧ Below w.heap.size w w' := by
  have b0 := Hd ((Below.refl w.heap.size w).alloc (Nat.le_refl _) (.cells #[.func (.func k) #[] #[]] 47))
  have pb := Hd (Blk.new w 47 #[.func (.func k) #[] #[]])
  have hmf : ∀ (fn : Fn) (first cap : Array Value) (w : World), (Instr.makeFunc fn first cap).run Tryd.prog w = .ok (.func fn first cap) w := fun _ _ _ _ => rfl
  go_enter Tryd.func24, Tryd.ntmps24
  go_wp2_with fail
  go_ret
  exact ⟨_, rfl, ⟨_, rfl, pb.out⟩, b0.out⟩

theorem clos_sub (n1 n2 n3 n4 : Bool) (A B A2 B2 : Option Addr) (c e0 c2 e2 : Nat) (xs ys us vs : List Nat) (N D : Int) (C : ∀ (V : World), Raw V A c xs → Raw V B e0 ys → Raw V A2 c2 us → Raw V B2 e2 vs → Calls Tryd.prog 25 #[.agg #[.bool n1, .slice A xs.length c, .bool n2, .slice B ys.length e0], .agg #[.bool n3, .slice A2 us.length c2, .bool n4, .slice B2 vs.length e2]] V (RetFracIn V N D)) (g : Nat) (w : World) (hg : Blk w g 47 #[.func (.func 25) #[] #[]]) (hx : Raw w A c xs) (kx : Raw w B e0 ys) (hy : Raw w A2 c2 us) (ky : Raw w B2 e2 vs) :
    Calls Tryd.prog 42 #[.agg #[.bool n1, .slice A xs.length c, .bool n2, .slice B ys.length e0], .agg #[.bool n3, .slice A2 us.length c2, .bool n4, .slice B2 vs.length e2], .pointer (some ⟨g, 0, none⟩)] w (RetFracB w N D true) := by
  have H2 := Hd C
  clear C
  have b0 := ((((Below.refl w.heap.size w).alloc (Nat.le_refl _) (.cells #[.bool n1, .slice A xs.length c, .bool n2, .slice B ys.length e0] 26)).alloc (by simp) (.cells #[.bool n3, .slice A2 us.length c2, .bool n4, .slice B2 vs.length e2] 26)).alloc (by simp; omega) (.cells #[.bool false, .slice none 0 0, .bool false, .slice none 0 0] 26))
  have p0 := ((Quad.new w (.bool n1) (.slice A xs.length c) (.bool n2) (.slice B ys.length e0)).alloc (.cells #[.bool n3, .slice A2 us.length c2, .bool n4, .slice B2 vs.length e2] 26)).alloc (.cells #[.bool false, .slice none 0 0, .bool false, .slice none 0 0] 26)
  have p1 := (Quad.new (w.alloc (.cells #[.bool n1, .slice A xs.length c, .bool n2, .slice B ys.length e0] 26)) (.bool n3) (.slice A2 us.length c2) (.bool n4) (.slice B2 vs.length e2)).alloc (.cells #[.bool false, .slice none 0 0, .bool false, .slice none 0 0] 26)
  have p2 := Quad.new ((w.alloc (.cells #[.bool n1, .slice A xs.length c, .bool n2, .slice B ys.length e0] 26)).alloc (.cells #[.bool n3, .slice A2 us.length c2, .bool n4, .slice B2 vs.length e2] 26)) (.bool false) (.slice none 0 0) (.bool false) (.slice none 0 0)
  simp only [World.size_alloc] at p1 p2
  have PX := Hd p0
  have PY := Hd p1
  have PR := Hd p2
  have RX := Hd (hx.below b0)
  have KX := Hd (kx.below b0)
  have RY := Hd (hy.below b0)
  have KY := Hd (ky.below b0)
  have PG := Hd (hg.below b0 hg.lt)
  have HB := Hd b0
  clear b0 p0 p1 p2 hx kx hy ky hg
  go_enter Tryd.func42, Tryd.ntmps42
  obtain ⟨W, E⟩ : ∃ W, W = (((w.alloc (.cells #[.bool n1, .slice A xs.length c, .bool n2, .slice B ys.length e0] 26)).alloc (.cells #[.bool n3, .slice A2 us.length c2, .bool n4, .slice B2 vs.length e2] 26)).alloc (.cells #[.bool false, .slice none 0 0, .bool false, .slice none 0 0] 26)) := ⟨_, rfl⟩
  go_upto_region 1 with fail
  rw [← E] at PX PY PR RX KX RY KY PG HB ⊢
  clear E
  have HS0 := Hd (show w.heap.size ≤ W.heap.size from HB.out.size)
  obtain ⟨l_x, x0, x1, x2, x3, -, -, -, -⟩ := PX.out.facts
  obtain ⟨l_y, y0, y1, y2, y3, -, -, -, -⟩ := PY.out.facts
  have g0 := PG.out.cell 0
  simp at g0
  go_wp2_with fail
  refine (H2.out W RX.out KX.out RY.out KY.out).mono ?_
  rintro e wx1 ⟨v, rfl, hI, hb⟩
  clear l_x x0 x1 x2 x3
  clear l_y y0 y1 y2 y3
  clear g0
  obtain ⟨A7, c7, B7, e7, rfl, -⟩ := hI.form
  have O7 := Hd hI
  clear hI
  have HS_wx1 := Hd (show W.heap.size ≤ wx1.heap.size from hb.size)
  have PX := Hd (PX.out.below hb)
  have PY := Hd (PY.out.below hb)
  have PR := Hd (PR.out.below hb)
  have RX := Hd (RX.out.below hb)
  have KX := Hd (KX.out.below hb)
  have RY := Hd (RY.out.below hb)
  have KY := Hd (KY.out.below hb)
  have HB := Hd (belowTo HB.out hb)
  obtain ⟨l_r, r0, r1, r2, r3, fr0, fr1, fr2, fr3⟩ := PR.out.facts
  have HQ := Hd (PR.out.store (.bool (decide (N < 0))) (.slice A7 (natL N.natAbs).length c7) (.bool (decide (D < 0))) (.slice B7 (natL D.natAbs).length e7))
  have HF := Hd (below4 HB.out (show w.heap.size ≤ w.heap.size + 1 + 1 by omega) (.bool (decide (N < 0))) (.slice A7 (natL N.natAbs).length c7) (.bool (decide (D < 0))) (.slice B7 (natL D.natAbs).length e7))
  have HO := Hd (O7.out.quad PR.out (.bool (decide (N < 0))) (.slice A7 (natL N.natAbs).length c7) (.bool (decide (D < 0))) (.slice B7 (natL D.natAbs).length e7))
  go_wp2_with fail
  obtain ⟨_, k0, k1, k2, k3, _⟩ := HQ.out.facts
  exact bodyPost_ret (by simp [results, Tryd.results42, go_sem, k0, k1, k2, k3]) rfl ⟨_, rfl, HO.out, HF.out⟩

theorem do_always (k : FuncId) (g : Nat) (n1 n2 n3 n4 : Bool) (A B A2 B2 : Option Addr) (c e0 c2 e2 : Nat) (xs ys us vs : List Nat) (N D : Int) (C : ∀ (V : World), Blk V g 47 #[.func (.func k) #[] #[]] → Raw V A c xs → Raw V B e0 ys → Raw V A2 c2 us → Raw V B2 e2 vs → Calls Tryd.prog 42 #[.agg #[.bool n1, .slice A xs.length c, .bool n2, .slice B ys.length e0], .agg #[.bool n3, .slice A2 us.length c2, .bool n4, .slice B2 vs.length e2], .pointer (some ⟨g, 0, none⟩)] V (RetFracB V N D true)) (w : World) (hx : Raw w A c xs) (kx : Raw w B e0 ys) (hy : Raw w A2 c2 us) (ky : Raw w B2 e2 vs) (hc : (chkE n1 n2 xs ys == 0 && chkE n3 n4 us vs == 0) = true) (hg : Blk w g 47 #[.func (.func k) #[] #[]]) :
    Calls Tryd.prog 26 #[.func (.func 42) #[] #[.pointer (some ⟨g, 0, none⟩)], .agg #[.bool n1, .slice A xs.length c, .bool n2, .slice B ys.length e0], .agg #[.bool n3, .slice A2 us.length c2, .bool n4, .slice B2 vs.length e2]] w (RetFracOwn2 w.heap.size w (ansN N D) (ansD N D) (ansK N D)) := by
  have C1 := fun (V : World) (g' : Nat) (a1 : Raw V A c xs) (a2 : Raw V B e0 ys) (a3 : Raw V A2 c2 us) (a4 : Raw V B2 e2 vs) (hg : V.heap.size = g') => checks_two n1 n2 n3 n4 A B A2 B2 c e0 c2 e2 xs ys us vs V g' a1 a2 a3 a4 hg
  rw [hc] at C1
  have H1 := Hd C1
  clear C1
  have C3 := fun (V : World) (A' B' : Option Addr) (c' e' : Nat) (h : Raw V A' c' (natL N.natAbs)) (g : Raw V B' e' (natL D.natAbs)) => frac_answered N D A' B' c' e' V h g
  obtain ⟨N9, hN9⟩ : ∃ k : Int, k = ansN N D := ⟨_, rfl⟩
  obtain ⟨D9, hD9⟩ : ∃ k : Int, k = ansD N D := ⟨_, rfl⟩
  obtain ⟨K9, hK9⟩ : ∃ k : Int, k = ansK N D := ⟨_, rfl⟩
  rw [← hN9, ← hD9, ← hK9] at C3 ⊢
  have H3 := Hd C3
  clear hN9 hD9 hK9 C3
  have H2 := Hd C
  clear C hc
  have b0 := ((((Below.refl w.heap.size w).alloc (Nat.le_refl _) (.cells #[.bool n1, .slice A xs.length c, .bool n2, .slice B ys.length e0] 26)).alloc (by simp) (.cells #[.bool n3, .slice A2 us.length c2, .bool n4, .slice B2 vs.length e2] 26)).alloc (by simp; omega) (.cells #[.bool false, .slice none 0 0, .bool false, .slice none 0 0] 26))
  have p0 := ((Quad.new w (.bool n1) (.slice A xs.length c) (.bool n2) (.slice B ys.length e0)).alloc (.cells #[.bool n3, .slice A2 us.length c2, .bool n4, .slice B2 vs.length e2] 26)).alloc (.cells #[.bool false, .slice none 0 0, .bool false, .slice none 0 0] 26)
  have p1 := (Quad.new (w.alloc (.cells #[.bool n1, .slice A xs.length c, .bool n2, .slice B ys.length e0] 26)) (.bool n3) (.slice A2 us.length c2) (.bool n4) (.slice B2 vs.length e2)).alloc (.cells #[.bool false, .slice none 0 0, .bool false, .slice none 0 0] 26)
  have p2 := Quad.new ((w.alloc (.cells #[.bool n1, .slice A xs.length c, .bool n2, .slice B ys.length e0] 26)).alloc (.cells #[.bool n3, .slice A2 us.length c2, .bool n4, .slice B2 vs.length e2] 26)) (.bool false) (.slice none 0 0) (.bool false) (.slice none 0 0)
  simp only [World.size_alloc] at p1 p2
  have PX := Hd p0
  have PY := Hd p1
  have PR := Hd p2
  have RX := Hd (hx.below b0)
  have KX := Hd (kx.below b0)
  have RY := Hd (hy.below b0)
  have KY := Hd (ky.below b0)
  have PG := Hd (hg.below b0 hg.lt)
  have HB := Hd b0
  clear b0 p0 p1 p2 hx kx hy ky hg
  go_enter Tryd.func26, Tryd.ntmps26
  obtain ⟨W, E⟩ : ∃ W, W = (((w.alloc (.cells #[.bool n1, .slice A xs.length c, .bool n2, .slice B ys.length e0] 26)).alloc (.cells #[.bool n3, .slice A2 us.length c2, .bool n4, .slice B2 vs.length e2] 26)).alloc (.cells #[.bool false, .slice none 0 0, .bool false, .slice none 0 0] 26)) := ⟨_, rfl⟩
  go_upto_region 1 with fail
  rw [← E] at PX PY PR RX KX RY KY PG HB ⊢
  clear E
  have HS0 := Hd (show w.heap.size ≤ W.heap.size from HB.out.size)
  have PG := Hd (BlkH.mk PG.out)
  obtain ⟨l_x, x0, x1, x2, x3, -, -, -, -⟩ := PX.out.facts
  obtain ⟨l_y, y0, y1, y2, y3, -, -, -, -⟩ := PY.out.facts
  go_wp2_with fail
  refine (H1.out W _ RX.out KX.out RY.out KY.out rfl).mono ?_
  rintro e wx1 ⟨rfl, hb⟩
  clear l_x x0 x1 x2 x3
  clear l_y y0 y1 y2 y3
  have hb := ((Below.refl W.heap.size W).alloc (Nat.le_refl _) (.cells #[.bool n1, .slice A xs.length c, .bool n2, .slice B ys.length e0, .bool n3, .slice A2 us.length c2, .bool n4, .slice B2 vs.length e2] 26)).trans (hb.mono (by simp))
  have HS_wx1 := Hd (show W.heap.size ≤ wx1.heap.size from hb.size)
  have PX := Hd (PX.out.below hb)
  have PY := Hd (PY.out.below hb)
  have PR := Hd (PR.out.below hb)
  have RX := Hd (RX.out.below hb)
  have KX := Hd (KX.out.below hb)
  have RY := Hd (RY.out.below hb)
  have KY := Hd (KY.out.below hb)
  have PG := Hd (PG.out.below hb)
  have HB := Hd (belowTo HB.out hb)
  obtain ⟨l_x, x0, x1, x2, x3, -, -, -, -⟩ := PX.out.facts
  obtain ⟨l_y, y0, y1, y2, y3, -, -, -, -⟩ := PY.out.facts
  go_wp2_with fail
  refine (H2.out wx1 PG.out.blk RX.out KX.out RY.out KY.out).mono ?_
  rintro e wx2 ⟨v, rfl, hI, hb⟩
  clear l_x x0 x1 x2 x3
  clear l_y y0 y1 y2 y3
  obtain ⟨A7, c7, B7, e7, rfl, -⟩ := hI.form
  have O7 := Hd hI
  clear hI
  have HS_wx2 := Hd (show wx1.heap.size ≤ wx2.heap.size from hb.size)
  have PX := Hd (PX.out.below hb)
  have PY := Hd (PY.out.below hb)
  have PR := Hd (PR.out.below hb)
  have RX := Hd (RX.out.below hb)
  have KX := Hd (KX.out.below hb)
  have RY := Hd (RY.out.below hb)
  have KY := Hd (KY.out.below hb)
  have PG := Hd (PG.out.below hb)
  have HB := Hd (belowTo HB.out hb)
  have ha := (Below.refl wx2.heap.size wx2).alloc (Nat.le_refl _) (.cells #[.bool (decide (N < 0)), .slice A7 (natL N.natAbs).length c7, .bool (decide (D < 0)), .slice B7 (natL D.natAbs).length e7] 26)
  have hn := Quad.new wx2 (.bool (decide (N < 0))) (.slice A7 (natL N.natAbs).length c7) (.bool (decide (D < 0))) (.slice B7 (natL D.natAbs).length e7)
  have hz : (wx2.alloc (.cells #[.bool (decide (N < 0)), .slice A7 (natL N.natAbs).length c7, .bool (decide (D < 0)), .slice B7 (natL D.natAbs).length e7] 26)).heap.size = wx2.heap.size + 1 := by simp
  go_upto_region 4 with fail
  obtain ⟨wy3, E⟩ : ∃ W, W = wx2.alloc (.cells #[.bool (decide (N < 0)), .slice A7 (natL N.natAbs).length c7, .bool (decide (D < 0)), .slice B7 (natL D.natAbs).length e7] 26) := ⟨_, rfl⟩
  obtain ⟨q3, hq⟩ : ∃ q, q = wx2.heap.size := ⟨_, rfl⟩
  rw [← E] at ha
  rw [← E, ← hq] at hn hz ⊢
  have HZ_wy3 := Hd (And.intro hq hz)
  have P7 := Hd hn
  have PR := Hd (PR.out.below ha)
  have O7 := Hd (O7.out.below ha)
  have HB := Hd (belowTo HB.out ha)
  clear ha hn hz hq E
  have R7 := Hd O7.out.at_
  obtain ⟨A0, c0, B0, e9, he, r71, r72⟩ := R7.out.form
  simp only [Value.agg.injEq, Array.mk.injEq, List.cons.injEq, Value.slice.injEq, and_true, true_and] at he
  obtain ⟨⟨rfl, rfl⟩, rfl, rfl⟩ := he
  have R71 := Hd r71
  have R72 := Hd r72
  clear R7 r71 r72
  have hsy := Hd (show w.heap.size ≤ wy3.heap.size from HB.out.size)
  obtain ⟨l_z, z0, z1, z2, z3, -, -, -, -⟩ := P7.out.facts
  go_wp2_with fail
  refine (H3.out wy3 A7 B7 c7 e7 R71.out R72.out).mono ?_
  rintro e wx4 ⟨v, rfl, hI, hb⟩
  clear l_z z0 z1 z2 z3
  obtain ⟨A8, c8, B8, e8, rfl, -⟩ := hI.form
  have O8 := Hd hI
  clear hI R71 R72
  have HS_wx4 := Hd (show wy3.heap.size ≤ wx4.heap.size from hb.size)
  have PR := Hd (PR.out.below hb)
  have HB := Hd (belowTo HB.out hb)
  obtain ⟨l_r, r0, r1, r2, r3, fr0, fr1, fr2, fr3⟩ := PR.out.facts
  have HQ := Hd (PR.out.store (.bool (decide (N9 < 0))) (.slice A8 (natL N9.natAbs).length c8) (.bool (decide (D9 < 0))) (.slice B8 (natL D9.natAbs).length e8))
  have HF := Hd (below4 HB.out (show w.heap.size ≤ w.heap.size + 1 + 1 by omega) (.bool (decide (N9 < 0))) (.slice A8 (natL N9.natAbs).length c8) (.bool (decide (D9 < 0))) (.slice B8 (natL D9.natAbs).length e8))
  have HO := Hd (O8.out.quad PR.out (.bool (decide (N9 < 0))) (.slice A8 (natL N9.natAbs).length c8) (.bool (decide (D9 < 0))) (.slice B8 (natL D9.natAbs).length e8))
  go_wp2_with fail
  obtain ⟨_, k0, k1, k2, k3, _⟩ := HQ.out.facts
  exact bodyPost_ret (by simp [results, Tryd.results26, go_sem, k0, k1, k2, k3]) rfl ⟨_, rfl, HO.out.base hsy.out, HF.out⟩

theorem frac_Sub_any (n1 n2 n3 n4 : Bool) (A B A2 B2 : Option Addr) (c e0 c2 e2 : Nat) (xs ys us vs : List Nat) (N D K : Int) (C : ∀ (g : Nat) (V : World), Blk V g 47 #[.func (.func 25) #[] #[]] → Raw V A c xs → Raw V B e0 ys → Raw V A2 c2 us → Raw V B2 e2 vs → Calls Tryd.prog 26 #[.func (.func 42) #[] #[.pointer (some ⟨g, 0, none⟩)], .agg #[.bool n1, .slice A xs.length c, .bool n2, .slice B ys.length e0], .agg #[.bool n3, .slice A2 us.length c2, .bool n4, .slice B2 vs.length e2]] V (RetFracOwn2 V.heap.size V N D K)) (w : World) (hx : Raw w A c xs) (kx : Raw w B e0 ys) (hy : Raw w A2 c2 us) (ky : Raw w B2 e2 vs) :
    Calls Tryd.prog 10 #[.agg #[.bool n1, .slice A xs.length c, .bool n2, .slice B ys.length e0], .agg #[.bool n3, .slice A2 us.length c2, .bool n4, .slice B2 vs.length e2]] w (RetFracOwn2 w.heap.size w N D K) := by
  have RX0 := Hd hx
  have KX0 := Hd kx
  have RY0 := Hd hy
  have KY0 := Hd ky
  have H2 := Hd C
  clear C
  have b0 := ((((Below.refl w.heap.size w).alloc (Nat.le_refl _) (.cells #[.bool n1, .slice A xs.length c, .bool n2, .slice B ys.length e0] 26)).alloc (by simp) (.cells #[.bool n3, .slice A2 us.length c2, .bool n4, .slice B2 vs.length e2] 26)).alloc (by simp; omega) (.cells #[.bool false, .slice none 0 0, .bool false, .slice none 0 0] 26))
  have p0 := ((Quad.new w (.bool n1) (.slice A xs.length c) (.bool n2) (.slice B ys.length e0)).alloc (.cells #[.bool n3, .slice A2 us.length c2, .bool n4, .slice B2 vs.length e2] 26)).alloc (.cells #[.bool false, .slice none 0 0, .bool false, .slice none 0 0] 26)
  have p1 := (Quad.new (w.alloc (.cells #[.bool n1, .slice A xs.length c, .bool n2, .slice B ys.length e0] 26)) (.bool n3) (.slice A2 us.length c2) (.bool n4) (.slice B2 vs.length e2)).alloc (.cells #[.bool false, .slice none 0 0, .bool false, .slice none 0 0] 26)
  have p2 := Quad.new ((w.alloc (.cells #[.bool n1, .slice A xs.length c, .bool n2, .slice B ys.length e0] 26)).alloc (.cells #[.bool n3, .slice A2 us.length c2, .bool n4, .slice B2 vs.length e2] 26)) (.bool false) (.slice none 0 0) (.bool false) (.slice none 0 0)
  simp only [World.size_alloc] at p1 p2
  have PX := Hd p0
  have PY := Hd p1
  have PR := Hd p2
  have RX := Hd (hx.below b0)
  have KX := Hd (kx.below b0)
  have RY := Hd (hy.below b0)
  have KY := Hd (ky.below b0)
  have HB := Hd b0
  clear b0 p0 p1 p2 hx kx hy ky
  go_enter Tryd.func10, Tryd.ntmps10
  obtain ⟨W, E⟩ : ∃ W, W = (((w.alloc (.cells #[.bool n1, .slice A xs.length c, .bool n2, .slice B ys.length e0] 26)).alloc (.cells #[.bool n3, .slice A2 us.length c2, .bool n4, .slice B2 vs.length e2] 26)).alloc (.cells #[.bool false, .slice none 0 0, .bool false, .slice none 0 0] 26)) := ⟨_, rfl⟩
  go_upto_region 1 with fail
  rw [← E] at PX PY PR RX KX RY KY  HB ⊢
  clear E
  have HS0 := Hd (show w.heap.size ≤ W.heap.size from HB.out.size)
  have hsz := PR.out.blk.lt
  go_wp2_with fail
  refine wp_region_free [.any false (AlwaysAt 25) [], .val (.agg #[.bool n1, .slice A xs.length c, .bool n2, .slice B ys.length e0]) [], .val (.agg #[.bool n3, .slice A2 us.length c2, .bool n4, .slice B2 vs.length e2]) [], .any false (TupF w.heap.size N D K) [0], .any false (fun u V => FracOwn V w.heap.size u N D) [3], .val (.int .i64 K) [3], .old (w.heap.size + 1 + 1) 26 #[.bool false, .slice none 0 0, .bool false, .slice none 0 0] 0 4 4 [], .val (.int .i64 K) []] (w.heap.size + 1 + 1) W [26] blkInt _ mixedOrders2 (by omega) (Below.refl _ _) (KeptV.refl _ _ _) rfl (by kernel_rfl) (by kernel_rfl) (by kernel_rfl) (by kernel_rfl) (by kernel_rfl) (by kernel_rfl) (by kernel_rfl) (by kernel_rfl) rfl (by simp [oldsF]) ?_ ?_ ?_ ?_
  · simp only [StableF, and_true]
    exact ⟨fun u V V' h k => h.kept k (by decide), fun u V V' h k => h.kept k (by decide), fun u V V' h k => h.kept k (by decide)⟩
  · simp only [OldsF, and_true]
    exact ⟨Nat.le_refl _, PR.out.blk.lt, PR.out.blk, by simp⟩
  · simp (maxSteps := 4000000) [StepsF, DepF, freeAct, fill, pairs]
    repeat' (first | apply And.intro | (intro (u : Value)) | (intro (u : Nat)))
    all_goals try exact ⟨_, _, _, rfl, rfl, rfl, rfl, fracInfo⟩
    all_goals first
    | (intro V hV hK
       have qx : Quad V (w.heap.size) _ _ _ _ := ⟨PX.out.blk.below hV (by omega)⟩
       have qy : Quad V (w.heap.size + 1) _ _ _ _ := ⟨PY.out.blk.below hV (by omega)⟩
       obtain ⟨-, a_x, b_x, c_x, d_x, -, -, -, -⟩ := qx.facts
       obtain ⟨-, a_y, b_y, c_y, d_y, -, -, -, -⟩ := qy.facts
       clear hV hK qx qy
       go_simp
       first
       | exact Below.refl _ _
       | ((with_reducible refine (always_any 25 V).mono ?_); rintro e w' ⟨v, rfl, hv, hb⟩; exact ⟨hv, hb⟩))
    | (intro V hV hK h1
       have hb0 := HB.out.trans (hV.mono (by omega))
       have r1 := RX0.out.below hb0
       have r2 := KX0.out.below hb0
       have r3 := RY0.out.below hb0
       have r4 := KY0.out.below hb0
       have hvs : w.heap.size ≤ V.heap.size := hb0.size
       first
       | (obtain ⟨g, rfl, hg⟩ := h1.form
          clear hV hK h1 hb0
          go_simp
          (with_reducible refine (H2.out g V hg r1 r2 r3 r4).mono ?_)
          rintro e w' ⟨v, rfl, hv, hb⟩
          exact ⟨⟨v, rfl, hv.base hvs⟩, hb⟩)
       | (obtain ⟨v, rfl, hv⟩ := h1.form
          clear hV hK h1 hb0
          go_simp
          first
          | exact ⟨hv, Below.refl _ _⟩
          | exact Below.refl _ _))
    | exact fun _ _ _ (h : FracOwn _ _ _ _ _) => h.cells
  · simp [EndF, FactsF, freeAct, fill, pairs]
    intro u1 u2 u3 V hV hK h1 h2 h3 bq _ _ _
    have HF := Hd h3
    obtain ⟨A6, c6, A7, c7, rfl, -⟩ := h3.form
    simp [setAll, Value.cells] at bq
    have k0 := bq.cell 0
    have k1 := bq.cell 1
    have k2 := bq.cell 2
    have k3 := bq.cell 3
    simp at k0 k1 k2 k3
    have HB9 := Hd (HB.out.trans (hV.mono (by omega)))
    clear h1 h2 h3 hV hK bq
    go_wp2_with fail
    exact bodyPost_ret (by simp [results, Tryd.results10, go_sem, k0, k1, k2, k3]) rfl ⟨_, rfl, HF.out, HB9.out⟩
theorem frac_Sub_good (n d m f : Int) (A B A2 B2 : Option Addr) (c e0 c2 e2 : Nat) (w : World) (hx : Raw w A c (natL n.natAbs)) (kx : Raw w B e0 (natL d.natAbs)) (hy : Raw w A2 c2 (natL m.natAbs)) (ky : Raw w B2 e2 (natL f.natAbs)) (f1 : Fine n d) (f2 : Fine m f) :
    Calls Tryd.prog 10 #[.agg #[.bool (decide (n < 0)), .slice A (natL n.natAbs).length c, .bool (decide (d < 0)), .slice B (natL d.natAbs).length e0], .agg #[.bool (decide (m < 0)), .slice A2 (natL m.natAbs).length c2, .bool (decide (f < 0)), .slice B2 (natL f.natAbs).length e2]] w (RetFracOwn2 w.heap.size w (ansN (subN n d m f) (subD n d m f)) (ansD (subN n d m f) (subD n d m f)) (ansK (subN n d m f) (subD n d m f))) := by
  have hl1 : lz n ≤ 2048 := f1.num
  have hl2 : lz d ≤ 2048 := f1.den
  have hl3 : lz m ≤ 2048 := f2.num
  have hl4 : lz f ≤ 2048 := f2.den
  have hp1 := f1.pos
  have hp2 := f2.pos
  exact frac_Sub_any _ _ _ _ A B A2 B2 c e0 c2 e2 _ _ _ _ _ _ _ (fun g V hg a1 a2 a3 a4 => do_always 25 g _ _ _ _ A B A2 B2 c e0 c2 e2 _ _ _ _ _ _ (fun V hg a1 a2 a3 a4 => clos_sub _ _ _ _ A B A2 B2 c e0 c2 e2 _ _ _ _ _ _ (fun V a1 a2 a3 a4 => ratio_Minus n d m f A B A2 B2 c e0 c2 e2 V a1 a2 a3 a4 (by omega) (by omega) (by omega) (by omega) (by omega) (by omega)) g V hg a1 a2 a3 a4) V a1 a2 a3 a4 (by rw [f1.chk, f2.chk]; rfl) hg) w hx kx hy ky

/- Fractions as plain numbers: lowest terms are one, and stand in one order. -/

theorem gcdZ_dvd (n d : Int) : gcdZ n d ∣ n ∧ gcdZ n d ∣ d :=
  ⟨Int.ofNat_dvd_left.2 (Nat.gcd_dvd_left _ _), Int.ofNat_dvd_left.2 (Nat.gcd_dvd_right _ _)⟩
theorem low_parts (n : Int) {d : Int} (hd : 0 < d) : lowN n d * gcdZ n d = n ∧ lowD n d * gcdZ n d = d := by
  unfold lowN lowD
  rw [if_neg (by omega), if_neg (by omega)]
  exact ⟨Int.tdiv_mul_cancel (gcdZ_dvd n d).1, Int.tdiv_mul_cancel (gcdZ_dvd n d).2⟩
theorem lowD_pos (n : Int) {d : Int} (hd : 0 < d) : 0 < lowD n d := by
  have h := (low_parts n hd).2
  have hg := gcdZ_pos (n := n) (d := d) (by omega)
  rcases Int.lt_trichotomy (lowD n d) 0 with h1 | h1 | h1
  · have := Int.mul_neg_of_neg_of_pos h1 hg; omega
  · rw [h1] at h; simp at h; omega
  · exact h1
theorem low_one (n : Int) {d : Int} (hd : 0 < d) : gcdZ (lowN n d) (lowD n d) = 1 := by
  unfold lowN lowD
  rw [if_neg (by omega), if_neg (by omega)]
  have hp : 0 < Nat.gcd n.natAbs d.natAbs := Nat.gcd_pos_of_pos_right _ (by omega)
  have hc : Nat.gcd (n.natAbs / Nat.gcd n.natAbs d.natAbs) (d.natAbs / Nat.gcd n.natAbs d.natAbs) = 1 := Nat.coprime_div_gcd_div_gcd hp
  unfold gcdZ
  rw [Int.natAbs_tdiv, Int.natAbs_tdiv, Int.natAbs_natCast]
  exact congrArg (fun k : Nat => (k : Int)) hc
theorem sign_mul_pos {a b : Int} (hb : 0 < b) : (a * b).sign = a.sign := by
  rw [Int.sign_mul, Int.sign_eq_one_of_pos hb, Int.mul_one]
theorem low_sign (n : Int) {d : Int} (hd : 0 < d) : (lowN n d).sign = n.sign := by
  have h := (low_parts n hd).1
  have hg := gcdZ_pos (n := n) (d := d) (by omega)
  rw [← sign_mul_pos (a := lowN n d) hg, h]
theorem frac_one {n d m f : Int} (hd : 0 < d) (hf : 0 < f) (h1 : gcdZ n d = 1) (h2 : gcdZ m f = 1) (e : n * f = m * d) : n = m ∧ d = f := by
  have c1 : Nat.Coprime d.natAbs n.natAbs := by
    have : (Nat.gcd n.natAbs d.natAbs : Int) = 1 := h1
    rw [Nat.coprime_comm]; exact_mod_cast this
  have c2 : Nat.Coprime f.natAbs m.natAbs := by
    have : (Nat.gcd m.natAbs f.natAbs : Int) = 1 := h2
    rw [Nat.coprime_comm]; exact_mod_cast this
  have e' : n.natAbs * f.natAbs = m.natAbs * d.natAbs := by rw [← Int.natAbs_mul, ← Int.natAbs_mul, e]
  have d1 : d.natAbs ∣ f.natAbs := c1.dvd_of_dvd_mul_left ⟨m.natAbs, by rw [e', Nat.mul_comm]⟩
  have d2 : f.natAbs ∣ d.natAbs := c2.dvd_of_dvd_mul_left ⟨n.natAbs, by rw [← e', Nat.mul_comm]⟩
  have ed : d.natAbs = f.natAbs := Nat.dvd_antisymm d1 d2
  have edf : d = f := by omega
  subst edf
  exact ⟨Int.eq_of_mul_eq_mul_right (by omega) e, rfl⟩
theorem frac_one_iff {n d m f : Int} (h1 : Fine n d) (h2 : Fine m f) : n * f = m * d ↔ n = m ∧ d = f :=
  ⟨frac_one h1.pos h2.pos h1.low h2.low, fun ⟨a, b⟩ => by rw [a, b]⟩
theorem fine_low (s : Int) {t : Int} (ht : 0 < t) (h1 : lz (lowN s t) ≤ 2048) (h2 : lz (lowD s t) ≤ 2048) : Fine (lowN s t) (lowD s t) := by
  have f1 : Fit (lowN s t) := h1
  have f2 : Fit (lowD s t) := h2
  refine ⟨?_, h1, h2, lowD_pos s ht, low_one s ht⟩
  unfold chkE mkOk
  rw [f1.ok, f2.ok, ival_at, ival_at]
  simp only [Bool.and_self, if_true]
  rw [if_pos ⟨lowD_pos s ht, low_one s ht⟩]
theorem cmpz_turn (a b : Int) : cmpz b a = -cmpz a b := by
  unfold cmpz
  split <;> (try split) <;> (try split) <;> omega
theorem cmpz_nought (a b : Int) : cmpz a b = 0 ↔ a = b := by
  unfold cmpz
  split <;> (try split) <;> omega
theorem cmpz_le0 (a b : Int) : cmpz a b ≤ 0 ↔ a ≤ b := by
  unfold cmpz
  split <;> (try split) <;> omega
theorem cmp_three {n d m f p g : Int} (hd : 0 < d) (hf : 0 < f) (hg : 0 < g) (h1 : n * f ≤ m * d) (h2 : m * g ≤ p * f) : n * g ≤ p * d := by
  have a1 : n * f * g ≤ m * d * g := Int.mul_le_mul_of_nonneg_right h1 (by omega)
  have a2 : m * g * d ≤ p * f * d := Int.mul_le_mul_of_nonneg_right h2 (by omega)
  have a3 : m * d * g = m * g * d := by rw [Int.mul_assoc, Int.mul_comm d g, Int.mul_assoc]
  have a4 : n * g * f ≤ p * d * f := by
    rw [show n * g * f = n * f * g by rw [Int.mul_assoc, Int.mul_comm g f, Int.mul_assoc], show p * d * f = p * f * d by rw [Int.mul_assoc, Int.mul_comm d f, Int.mul_assoc]]
    omega
  exact Int.le_of_mul_le_mul_right a4 hf
theorem sub_sign {n d m f : Int} (hd : 0 < d) (hf : 0 < f) : (subN n d m f).sign = cmpz (n * f) (m * d) := by
  unfold subN
  rw [low_sign _ (Int.mul_pos hd hf)]
  unfold cmpz
  split
  · rw [Int.sign_eq_neg_one_of_neg (by omega)]
  · split
    · rw [Int.sign_eq_one_of_pos (by omega)]
    · rw [show n * f - m * d = 0 by omega]; rfl
/- SameFrac of the laws, of any two fractions. (Written by wip/frac/genfsame.py.) -/

theorem same_zz (x y : Int) (A B : Option Addr) (c d : Nat) (w : World) (h : Raw w A c (natL x.natAbs)) (g : Raw w B d (natL y.natAbs)) :
    Calls Tryd.prog 28 #[.agg #[.bool (decide (x < 0)), .slice A (natL x.natAbs).length c], .agg #[.bool (decide (y < 0)), .slice B (natL y.natAbs).length d]] w fun e w' => e = .returned (.bool (decide (x = y))) ∧ Below w.heap.size w w' := by
  have := same_any (decide (x < 0)) (decide (y < 0)) A B c d _ _ w h g
  have e : decide (decide (x < 0) = decide (y < 0) ∧ natL x.natAbs = natL y.natAbs) = decide (x = y) := by
    by_cases hxy : x = y
    · subst hxy; simp
    · rw [decide_eq_false hxy]
      have : ¬ (decide (x < 0) = decide (y < 0) ∧ natL x.natAbs = natL y.natAbs) := by
        rintro ⟨h1, h2⟩
        have h3 : x.natAbs = y.natAbs := by rw [← val_natL x.natAbs, ← val_natL y.natAbs, h2]
        have h4 : (x < 0) ↔ (y < 0) := by simpa using h1
        omega
      simpa using this
  rw [e] at this
  exact this

theorem sameFrac_no1 (n d m f : Int) (A B A2 B2 : Option Addr) (c e0 c2 e2 : Nat) (w : World) (hx : Raw w A c (natL n.natAbs)) (kx : Raw w B e0 (natL d.natAbs)) (hy : Raw w A2 c2 (natL m.natAbs)) (ky : Raw w B2 e2 (natL f.natAbs)) (h1 : n ≠ m) :
    Calls Tryd.prog 12 #[.agg #[.bool (decide (n < 0)), .slice A (natL n.natAbs).length c, .bool (decide (d < 0)), .slice B (natL d.natAbs).length e0], .agg #[.bool (decide (m < 0)), .slice A2 (natL m.natAbs).length c2, .bool (decide (f < 0)), .slice B2 (natL f.natAbs).length e2]] w fun e w' => e = .returned (.bool false) ∧ Below w.heap.size w w' := by
  have C1 := fun (V : World) (a1 : Raw V A c (natL n.natAbs)) (a2 : Raw V A2 c2 (natL m.natAbs)) => same_zz n m A A2 c c2 V a1 a2
  rw [decide_eq_false h1] at C1
  have H1 := Hd C1
  clear C1 h1
  have b0 := (((Below.refl w.heap.size w).alloc (Nat.le_refl _) (.cells #[.bool (decide (n < 0)), .slice A (natL n.natAbs).length c, .bool (decide (d < 0)), .slice B (natL d.natAbs).length e0] 26)).alloc (by simp) (.cells #[.bool (decide (m < 0)), .slice A2 (natL m.natAbs).length c2, .bool (decide (f < 0)), .slice B2 (natL f.natAbs).length e2] 26))
  have p0 := (Quad.new w (.bool (decide (n < 0))) (.slice A (natL n.natAbs).length c) (.bool (decide (d < 0))) (.slice B (natL d.natAbs).length e0)).alloc (.cells #[.bool (decide (m < 0)), .slice A2 (natL m.natAbs).length c2, .bool (decide (f < 0)), .slice B2 (natL f.natAbs).length e2] 26)
  have p1 := Quad.new (w.alloc (.cells #[.bool (decide (n < 0)), .slice A (natL n.natAbs).length c, .bool (decide (d < 0)), .slice B (natL d.natAbs).length e0] 26)) (.bool (decide (m < 0))) (.slice A2 (natL m.natAbs).length c2) (.bool (decide (f < 0))) (.slice B2 (natL f.natAbs).length e2)
  simp only [World.size_alloc] at p1
  have PX := Hd p0
  have PY := Hd p1
  have RX := Hd (hx.below b0)
  have KX := Hd (kx.below b0)
  have RY := Hd (hy.below b0)
  have KY := Hd (ky.below b0)
  have HB := Hd b0
  clear b0 p0 p1 hx kx hy ky
  go_enter Tryd.func12, Tryd.ntmps12
  obtain ⟨W, E⟩ : ∃ W, W = ((w.alloc (.cells #[.bool (decide (n < 0)), .slice A (natL n.natAbs).length c, .bool (decide (d < 0)), .slice B (natL d.natAbs).length e0] 26)).alloc (.cells #[.bool (decide (m < 0)), .slice A2 (natL m.natAbs).length c2, .bool (decide (f < 0)), .slice B2 (natL f.natAbs).length e2] 26)) := ⟨_, rfl⟩
  go_upto_region 1 with fail
  rw [← E] at PX PY RX KX RY KY  HB ⊢
  clear E
  have HS0 := Hd (show w.heap.size ≤ W.heap.size from HB.out.size)
  obtain ⟨l_x, x0, x1, x2, x3, -, -, -, -⟩ := PX.out.facts
  obtain ⟨l_y, y0, y1, y2, y3, -, -, -, -⟩ := PY.out.facts
  go_wp2_with fail
  refine (H1.out W RX.out RY.out).mono ?_
  rintro e wx1 ⟨rfl, hb⟩
  clear l_x x0 x1 x2 x3
  clear l_y y0 y1 y2 y3
  have HS_wx1 := Hd (show W.heap.size ≤ wx1.heap.size from hb.size)
  have PX := Hd (PX.out.below hb)
  have PY := Hd (PY.out.below hb)
  have RX := Hd (RX.out.below hb)
  have KX := Hd (KX.out.below hb)
  have RY := Hd (RY.out.below hb)
  have KY := Hd (KY.out.below hb)
  have HB := Hd (belowTo HB.out hb)
  go_wp2_with fail
  go_ret
  exact ⟨rfl, HB.out⟩

theorem sameFrac_no2 (n d m f : Int) (A B A2 B2 : Option Addr) (c e0 c2 e2 : Nat) (w : World) (hx : Raw w A c (natL n.natAbs)) (kx : Raw w B e0 (natL d.natAbs)) (hy : Raw w A2 c2 (natL m.natAbs)) (ky : Raw w B2 e2 (natL f.natAbs)) (h1 : n = m) (h2 : d ≠ f) :
    Calls Tryd.prog 12 #[.agg #[.bool (decide (n < 0)), .slice A (natL n.natAbs).length c, .bool (decide (d < 0)), .slice B (natL d.natAbs).length e0], .agg #[.bool (decide (m < 0)), .slice A2 (natL m.natAbs).length c2, .bool (decide (f < 0)), .slice B2 (natL f.natAbs).length e2]] w fun e w' => e = .returned (.bool false) ∧ Below w.heap.size w w' := by
  have C1 := fun (V : World) (a1 : Raw V A c (natL n.natAbs)) (a2 : Raw V A2 c2 (natL m.natAbs)) => same_zz n m A A2 c c2 V a1 a2
  rw [decide_eq_true h1] at C1
  have H1 := Hd C1
  have C2 := fun (V : World) (a1 : Raw V B e0 (natL d.natAbs)) (a2 : Raw V B2 e2 (natL f.natAbs)) => same_zz d f B B2 e0 e2 V a1 a2
  rw [decide_eq_false h2] at C2
  have H2 := Hd C2
  clear C1 h1 C2 h2
  have b0 := (((Below.refl w.heap.size w).alloc (Nat.le_refl _) (.cells #[.bool (decide (n < 0)), .slice A (natL n.natAbs).length c, .bool (decide (d < 0)), .slice B (natL d.natAbs).length e0] 26)).alloc (by simp) (.cells #[.bool (decide (m < 0)), .slice A2 (natL m.natAbs).length c2, .bool (decide (f < 0)), .slice B2 (natL f.natAbs).length e2] 26))
  have p0 := (Quad.new w (.bool (decide (n < 0))) (.slice A (natL n.natAbs).length c) (.bool (decide (d < 0))) (.slice B (natL d.natAbs).length e0)).alloc (.cells #[.bool (decide (m < 0)), .slice A2 (natL m.natAbs).length c2, .bool (decide (f < 0)), .slice B2 (natL f.natAbs).length e2] 26)
  have p1 := Quad.new (w.alloc (.cells #[.bool (decide (n < 0)), .slice A (natL n.natAbs).length c, .bool (decide (d < 0)), .slice B (natL d.natAbs).length e0] 26)) (.bool (decide (m < 0))) (.slice A2 (natL m.natAbs).length c2) (.bool (decide (f < 0))) (.slice B2 (natL f.natAbs).length e2)
  simp only [World.size_alloc] at p1
  have PX := Hd p0
  have PY := Hd p1
  have RX := Hd (hx.below b0)
  have KX := Hd (kx.below b0)
  have RY := Hd (hy.below b0)
  have KY := Hd (ky.below b0)
  have HB := Hd b0
  clear b0 p0 p1 hx kx hy ky
  go_enter Tryd.func12, Tryd.ntmps12
  obtain ⟨W, E⟩ : ∃ W, W = ((w.alloc (.cells #[.bool (decide (n < 0)), .slice A (natL n.natAbs).length c, .bool (decide (d < 0)), .slice B (natL d.natAbs).length e0] 26)).alloc (.cells #[.bool (decide (m < 0)), .slice A2 (natL m.natAbs).length c2, .bool (decide (f < 0)), .slice B2 (natL f.natAbs).length e2] 26)) := ⟨_, rfl⟩
  go_upto_region 1 with fail
  rw [← E] at PX PY RX KX RY KY  HB ⊢
  clear E
  have HS0 := Hd (show w.heap.size ≤ W.heap.size from HB.out.size)
  obtain ⟨l_x, x0, x1, x2, x3, -, -, -, -⟩ := PX.out.facts
  obtain ⟨l_y, y0, y1, y2, y3, -, -, -, -⟩ := PY.out.facts
  go_wp2_with fail
  refine (H1.out W RX.out RY.out).mono ?_
  rintro e wx1 ⟨rfl, hb⟩
  clear l_x x0 x1 x2 x3
  clear l_y y0 y1 y2 y3
  have HS_wx1 := Hd (show W.heap.size ≤ wx1.heap.size from hb.size)
  have PX := Hd (PX.out.below hb)
  have PY := Hd (PY.out.below hb)
  have RX := Hd (RX.out.below hb)
  have KX := Hd (KX.out.below hb)
  have RY := Hd (RY.out.below hb)
  have KY := Hd (KY.out.below hb)
  have HB := Hd (belowTo HB.out hb)
  obtain ⟨l_x, x0, x1, x2, x3, -, -, -, -⟩ := PX.out.facts
  obtain ⟨l_y, y0, y1, y2, y3, -, -, -, -⟩ := PY.out.facts
  go_wp2_with fail
  refine (H2.out wx1 KX.out KY.out).mono ?_
  rintro e wx2 ⟨rfl, hb⟩
  clear l_x x0 x1 x2 x3
  clear l_y y0 y1 y2 y3
  have HS_wx2 := Hd (show wx1.heap.size ≤ wx2.heap.size from hb.size)
  have PX := Hd (PX.out.below hb)
  have PY := Hd (PY.out.below hb)
  have RX := Hd (RX.out.below hb)
  have KX := Hd (KX.out.below hb)
  have RY := Hd (RY.out.below hb)
  have KY := Hd (KY.out.below hb)
  have HB := Hd (belowTo HB.out hb)
  go_wp2_with fail
  go_ret
  exact ⟨rfl, HB.out⟩

theorem sameFrac_yes (n d m f : Int) (A B A2 B2 : Option Addr) (c e0 c2 e2 : Nat) (w : World) (hx : Raw w A c (natL n.natAbs)) (kx : Raw w B e0 (natL d.natAbs)) (hy : Raw w A2 c2 (natL m.natAbs)) (ky : Raw w B2 e2 (natL f.natAbs)) (h1 : n = m) (h2 : d = f) :
    Calls Tryd.prog 12 #[.agg #[.bool (decide (n < 0)), .slice A (natL n.natAbs).length c, .bool (decide (d < 0)), .slice B (natL d.natAbs).length e0], .agg #[.bool (decide (m < 0)), .slice A2 (natL m.natAbs).length c2, .bool (decide (f < 0)), .slice B2 (natL f.natAbs).length e2]] w fun e w' => e = .returned (.bool true) ∧ Below w.heap.size w w' := by
  have C1 := fun (V : World) (a1 : Raw V A c (natL n.natAbs)) (a2 : Raw V A2 c2 (natL m.natAbs)) => same_zz n m A A2 c c2 V a1 a2
  rw [decide_eq_true h1] at C1
  have H1 := Hd C1
  have C2 := fun (V : World) (a1 : Raw V B e0 (natL d.natAbs)) (a2 : Raw V B2 e2 (natL f.natAbs)) => same_zz d f B B2 e0 e2 V a1 a2
  rw [decide_eq_true h2] at C2
  have H2 := Hd C2
  clear C1 h1 C2 h2
  have b0 := (((Below.refl w.heap.size w).alloc (Nat.le_refl _) (.cells #[.bool (decide (n < 0)), .slice A (natL n.natAbs).length c, .bool (decide (d < 0)), .slice B (natL d.natAbs).length e0] 26)).alloc (by simp) (.cells #[.bool (decide (m < 0)), .slice A2 (natL m.natAbs).length c2, .bool (decide (f < 0)), .slice B2 (natL f.natAbs).length e2] 26))
  have p0 := (Quad.new w (.bool (decide (n < 0))) (.slice A (natL n.natAbs).length c) (.bool (decide (d < 0))) (.slice B (natL d.natAbs).length e0)).alloc (.cells #[.bool (decide (m < 0)), .slice A2 (natL m.natAbs).length c2, .bool (decide (f < 0)), .slice B2 (natL f.natAbs).length e2] 26)
  have p1 := Quad.new (w.alloc (.cells #[.bool (decide (n < 0)), .slice A (natL n.natAbs).length c, .bool (decide (d < 0)), .slice B (natL d.natAbs).length e0] 26)) (.bool (decide (m < 0))) (.slice A2 (natL m.natAbs).length c2) (.bool (decide (f < 0))) (.slice B2 (natL f.natAbs).length e2)
  simp only [World.size_alloc] at p1
  have PX := Hd p0
  have PY := Hd p1
  have RX := Hd (hx.below b0)
  have KX := Hd (kx.below b0)
  have RY := Hd (hy.below b0)
  have KY := Hd (ky.below b0)
  have HB := Hd b0
  clear b0 p0 p1 hx kx hy ky
  go_enter Tryd.func12, Tryd.ntmps12
  obtain ⟨W, E⟩ : ∃ W, W = ((w.alloc (.cells #[.bool (decide (n < 0)), .slice A (natL n.natAbs).length c, .bool (decide (d < 0)), .slice B (natL d.natAbs).length e0] 26)).alloc (.cells #[.bool (decide (m < 0)), .slice A2 (natL m.natAbs).length c2, .bool (decide (f < 0)), .slice B2 (natL f.natAbs).length e2] 26)) := ⟨_, rfl⟩
  go_upto_region 1 with fail
  rw [← E] at PX PY RX KX RY KY  HB ⊢
  clear E
  have HS0 := Hd (show w.heap.size ≤ W.heap.size from HB.out.size)
  obtain ⟨l_x, x0, x1, x2, x3, -, -, -, -⟩ := PX.out.facts
  obtain ⟨l_y, y0, y1, y2, y3, -, -, -, -⟩ := PY.out.facts
  go_wp2_with fail
  refine (H1.out W RX.out RY.out).mono ?_
  rintro e wx1 ⟨rfl, hb⟩
  clear l_x x0 x1 x2 x3
  clear l_y y0 y1 y2 y3
  have HS_wx1 := Hd (show W.heap.size ≤ wx1.heap.size from hb.size)
  have PX := Hd (PX.out.below hb)
  have PY := Hd (PY.out.below hb)
  have RX := Hd (RX.out.below hb)
  have KX := Hd (KX.out.below hb)
  have RY := Hd (RY.out.below hb)
  have KY := Hd (KY.out.below hb)
  have HB := Hd (belowTo HB.out hb)
  obtain ⟨l_x, x0, x1, x2, x3, -, -, -, -⟩ := PX.out.facts
  obtain ⟨l_y, y0, y1, y2, y3, -, -, -, -⟩ := PY.out.facts
  go_wp2_with fail
  refine (H2.out wx1 KX.out KY.out).mono ?_
  rintro e wx2 ⟨rfl, hb⟩
  clear l_x x0 x1 x2 x3
  clear l_y y0 y1 y2 y3
  have HS_wx2 := Hd (show wx1.heap.size ≤ wx2.heap.size from hb.size)
  have PX := Hd (PX.out.below hb)
  have PY := Hd (PY.out.below hb)
  have RX := Hd (RX.out.below hb)
  have KX := Hd (KX.out.below hb)
  have RY := Hd (RY.out.below hb)
  have KY := Hd (KY.out.below hb)
  have HB := Hd (belowTo HB.out hb)
  go_wp2_with fail
  go_ret
  exact ⟨rfl, HB.out⟩

theorem sameFrac_any (n d m f : Int) (A B A2 B2 : Option Addr) (c e0 c2 e2 : Nat) (w : World) (hx : Raw w A c (natL n.natAbs)) (kx : Raw w B e0 (natL d.natAbs)) (hy : Raw w A2 c2 (natL m.natAbs)) (ky : Raw w B2 e2 (natL f.natAbs)) :
    Calls Tryd.prog 12 #[.agg #[.bool (decide (n < 0)), .slice A (natL n.natAbs).length c, .bool (decide (d < 0)), .slice B (natL d.natAbs).length e0], .agg #[.bool (decide (m < 0)), .slice A2 (natL m.natAbs).length c2, .bool (decide (f < 0)), .slice B2 (natL f.natAbs).length e2]] w fun e w' => e = .returned (.bool (decide (n = m ∧ d = f))) ∧ Below w.heap.size w w' := by
  by_cases h1 : n = m
  · by_cases h2 : d = f
    · rw [decide_eq_true (show n = m ∧ d = f from ⟨h1, h2⟩)]; exact sameFrac_yes n d m f A B A2 B2 c e0 c2 e2 w hx kx hy ky h1 h2
    · rw [decide_eq_false (show ¬ (n = m ∧ d = f) from fun h => h2 h.2)]; exact sameFrac_no2 n d m f A B A2 B2 c e0 c2 e2 w hx kx hy ky h1 h2
  · rw [decide_eq_false (show ¬ (n = m ∧ d = f) from fun h => h1 h.1)]; exact sameFrac_no1 n d m f A B A2 B2 c e0 c2 e2 w hx kx hy ky h1
end Go.Proofs.YtadmoheohmbieaaDoor
