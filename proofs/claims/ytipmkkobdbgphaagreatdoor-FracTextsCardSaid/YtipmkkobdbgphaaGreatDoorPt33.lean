/- Several texts in one: TreesR, FRefMake, FRefDo, FParse. -/
import Derived.Test.YtipmkkobdbgphaaGreatDoorPt24
import Derived.Test.YtipmkkobdbgphaaGreatDoorPt15
import Derived.Test.YtipmkkobdbgphaaGreatDoorPt22
import Derived.Test.YtipmkkobdbgphaaGreatDoorPt19
import Derived.Test.YtipmkkobdbgphaaGreatDoorPt32
import Derived.Test.YtipmkkobdbgphaaGreatDoorPtHd
set_option maxRecDepth 100000
set_option maxHeartbeats 8000000
/- Plus, Minus, Times, Over, Cmp of the references of chapter 02. (Written by wip/frac/gentrees.py.) -/
namespace Go.Proofs.YtipmkkobdbgphaaGreatDoor
open Go.RowKit

structure TurnIn (z d : Int) (B : Option Addr) (e0 : Nat) (v : Value) (V : World) : Prop where
  form : ∃ A c, v = .agg #[.bool (decide (z < 0)), .slice A (natL z.natAbs).length c, .bool (decide (d < 0)), .slice B (natL d.natAbs).length e0] ∧ IntOwn V 0 (.agg #[.bool (decide (z < 0)), .slice A (natL z.natAbs).length c]) z
theorem TurnIn.kept {z d : Int} {B : Option Addr} {e0 b : Nat} {v : Value} {V V' : World} {Ts : List TypeId} (h : TurnIn z d B e0 v V) (k : KeptV b Ts V V') (hT : 104 ∉ Ts) : TurnIn z d B e0 v V' := by
  obtain ⟨A, c, h1, h2⟩ := h.form
  exact ⟨A, c, h1, h2.kept k hT⟩
theorem TurnIn.cells {z d : Int} {B : Option Addr} {e0 : Nat} {v : Value} {V : World} (h : TurnIn z d B e0 v V) : CellsN v 4 := by
  obtain ⟨A, c, rfl, -⟩ := h.form
  exact ⟨rfl, by simp [Value.cells, Value.oneCell']⟩

/- Make of the references of chapter 02. (Written by wip/frac/genfmake.py ref.) -/

def RetFrac2 (w : World) (n d k : Int) (e : Ending) (w' : World) : Prop := ∃ v, e = .returned (.tuple #[v, .int .i64 k]) ∧ FracAt w' v n d ∧ Below w.heap.size w w'
theorem FracAt.quad {w : World} {g : Nat} {v : Value} {n d : Int} (h : FracAt w v n d) {b1 b2 : Bool} {A1 A2 : Option Addr} {n1 n2 c1 c2 : Nat} (q : Quad w g (.bool b1) (.slice A1 n1 c1) (.bool b2) (.slice A2 n2 c2)) (x y z u : Value) : FracAt ((((w.setCell ⟨g, 0, none⟩ x).setCell ⟨g, 1, none⟩ y).setCell ⟨g, 2, none⟩ z).setCell ⟨g, 3, none⟩ u) v n d := by
  obtain ⟨A, k, B, e, h1, h2, h3⟩ := h.form
  exact ⟨A, k, B, e, h1, h2.quad q _ _ _ _, h3.quad q _ _ _ _⟩

/- Do of the references of chapter 02; do of the laws. (Written by wip/frac/genfrefdo.py.) -/

theorem ref02_Long_a (b1 b2 : Bool) (A B : Option Addr) (n c m e0 g : Nat) (hn : n ≤ 9223372036854775807) (hl : 2048 < n) (w : World) (q : Quad w g (.bool b1) (.slice A n c) (.bool b2) (.slice B m e0)) :
    Calls Tryz.prog 192 #[.slice (some ⟨g, 0, none⟩) 1 1] w fun e w' => e = .returned (.bool true) ∧ Below w.heap.size w w' := by
  have C1 := fun V => ref_Long b1 A n c hn V
  rw [decide_eq_true (show 2048 < n from hl)] at C1
  have H1 := Hd C1
  have HQ := Hd q
  clear C1 hl q hn
  go_enter Tryz.func192, Tryz.ntmps192
  go_wp2_with fail
  go_loopw [3] (fun s wr => ∃ i : Nat, s = .int .i64 i ∧ i ≤ 0 ∧ Below w.heap.size w wr) (fun s _ => 1 - (intOf s).toNat)
  case atStart => exact ⟨0, rfl, by omega, Below.refl _ _⟩
  case round =>
    obtain ⟨i, rfl, hi, hb⟩ := hrel
    obtain rfl : i = 0 := by omega
    clear hi
    obtain ⟨x0, x1, x2, x3, x4, -, -, -, -⟩ := (HQ.out.below hb).facts
    have HB := Hd hb
    clear hb
    go_wp2_with ((go_at_call 231; with_reducible refine (H1.out _).mono ?_; rintro e w1 ⟨rfl, hb1⟩; have B1 := belowTo HB.out hb1; have q4 := HQ.out.below B1; obtain ⟨l4, y0, y1, y2, y3, -, -, -, -⟩ := q4.facts))
    go_ret
    exact ⟨rfl, B1⟩

theorem ref02_Long_b (b1 b2 : Bool) (A B : Option Addr) (n c m e0 g : Nat) (hn : n ≤ 9223372036854775807) (hm : m ≤ 9223372036854775807) (hl : n ≤ 2048) (hl2 : 2048 < m) (w : World) (q : Quad w g (.bool b1) (.slice A n c) (.bool b2) (.slice B m e0)) :
    Calls Tryz.prog 192 #[.slice (some ⟨g, 0, none⟩) 1 1] w fun e w' => e = .returned (.bool true) ∧ Below w.heap.size w w' := by
  have C1 := fun V => ref_Long b1 A n c hn V
  rw [decide_eq_false (show ¬ 2048 < n from by omega)] at C1
  have C2 := fun V => ref_Long b2 B m e0 hm V
  rw [decide_eq_true (show 2048 < m from hl2)] at C2
  have H2 := Hd C2
  clear C2 hl2
  have H1 := Hd C1
  have HQ := Hd q
  clear C1 hl q hn hm
  go_enter Tryz.func192, Tryz.ntmps192
  go_wp2_with fail
  go_loopw [3] (fun s wr => ∃ i : Nat, s = .int .i64 i ∧ i ≤ 0 ∧ Below w.heap.size w wr) (fun s _ => 1 - (intOf s).toNat)
  case atStart => exact ⟨0, rfl, by omega, Below.refl _ _⟩
  case round =>
    obtain ⟨i, rfl, hi, hb⟩ := hrel
    obtain rfl : i = 0 := by omega
    clear hi
    obtain ⟨x0, x1, x2, x3, x4, -, -, -, -⟩ := (HQ.out.below hb).facts
    have HB := Hd hb
    clear hb
    go_wp2_with (first | (go_at_call 231; with_reducible refine (H1.out _).mono ?_; rintro e w1 ⟨rfl, hb1⟩; have B1 := belowTo HB.out hb1; have q4 := HQ.out.below B1; obtain ⟨l4, y0, y1, y2, y3, -, -, -, -⟩ := q4.facts) | (go_at_call 231; with_reducible refine (H2.out _).mono ?_; rintro e w2 ⟨rfl, hb2⟩; have B2 := belowTo B1 hb2))
    go_ret
    exact ⟨rfl, B2⟩

theorem ref02_Long_c (b1 b2 : Bool) (A B : Option Addr) (n c m e0 g : Nat) (hn : n ≤ 9223372036854775807) (hm : m ≤ 9223372036854775807) (hl : n ≤ 2048) (hl2 : m ≤ 2048) (w : World) (q : Quad w g (.bool b1) (.slice A n c) (.bool b2) (.slice B m e0)) :
    Calls Tryz.prog 192 #[.slice (some ⟨g, 0, none⟩) 1 1] w fun e w' => e = .returned (.bool false) ∧ Below w.heap.size w w' := by
  have C1 := fun V => ref_Long b1 A n c hn V
  rw [decide_eq_false (show ¬ 2048 < n from by omega)] at C1
  have C2 := fun V => ref_Long b2 B m e0 hm V
  rw [decide_eq_false (show ¬ 2048 < m from by omega)] at C2
  have H2 := Hd C2
  clear C2 hl2
  have H1 := Hd C1
  have HQ := Hd q
  clear C1 hl q hn hm
  go_enter Tryz.func192, Tryz.ntmps192
  go_wp2_with fail
  go_loopw [3] (fun s wr => ∃ i : Nat, s = .int .i64 i ∧ i ≤ 1 ∧ Below w.heap.size w wr) (fun s _ => 1 - (intOf s).toNat)
  case atStart => exact ⟨0, rfl, by omega, Below.refl _ _⟩
  case round =>
    obtain ⟨i, rfl, hi, hb⟩ := hrel
    by_cases hlt : i < 1
    · obtain rfl : i = 0 := by omega
      clear hi hlt
      obtain ⟨x0, x1, x2, x3, x4, -, -, -, -⟩ := (HQ.out.below hb).facts
      have HB := Hd hb
      clear hb
      go_wp2_with (first | (go_at_call 231; with_reducible refine (H1.out _).mono ?_; rintro e w1 ⟨rfl, hb1⟩; have B1 := belowTo HB.out hb1; have q4 := HQ.out.below B1; obtain ⟨l4, y0, y1, y2, y3, -, -, -, -⟩ := q4.facts) | (go_at_call 231; with_reducible refine (H2.out _).mono ?_; rintro e w2 ⟨rfl, hb2⟩; have B2 := belowTo B1 hb2))
      go_roundw
      case rel => exact ⟨1, by go_num, Nat.le_refl _, B2⟩
      case measure => simp [intOf]
    · obtain rfl : i = 1 := by omega
      have HB := Hd hb
      clear hb hi hlt
      go_wp2_with fail
      go_ret
      exact ⟨rfl, HB.out⟩

theorem ref02_Long_any (b1 b2 : Bool) (A B : Option Addr) (n c m e0 g : Nat) (hn : n ≤ 9223372036854775807) (hm : m ≤ 9223372036854775807) (w : World) (q : Quad w g (.bool b1) (.slice A n c) (.bool b2) (.slice B m e0)) :
    Calls Tryz.prog 192 #[.slice (some ⟨g, 0, none⟩) 1 1] w fun e w' => e = .returned (.bool (decide (2048 < n) || decide (2048 < m))) ∧ Below w.heap.size w w' := by
  by_cases h1 : 2048 < n
  · have := ref02_Long_a b1 b2 A B n c m e0 g hn h1 w q
    simpa [h1] using this
  · by_cases h2 : 2048 < m
    · have := ref02_Long_b b1 b2 A B n c m e0 g hn hm (by omega) h2 w q
      simpa [h1, h2] using this
    · have := ref02_Long_c b1 b2 A B n c m e0 g hn hm (by omega) (by omega) w q
      simpa [h1, h2] using this

theorem ref02_answered_fits (n d : Int) (A B : Option Addr) (c e0 : Nat) (w : World) (h : Raw w A c (natL n.natAbs)) (g : Raw w B e0 (natL d.natAbs)) (hn : lz n ≤ 2048) (hd : lz d ≤ 2048) :
    Calls Tryz.prog 112 #[.agg #[.bool (decide (n < 0)), .slice A (natL n.natAbs).length c, .bool (decide (d < 0)), .slice B (natL d.natAbs).length e0]] w (RetFrac2 w n d 0) := by
  have px := (Quad.new w (.bool (decide (n < 0))) (.slice A (natL n.natAbs).length c) (.bool (decide (d < 0))) (.slice B (natL d.natAbs).length e0)).alloc (.cells #[.bool false, .slice none 0 0, .bool false, .slice none 0 0] 27)
  have pr := Quad.new (w.alloc (.cells #[.bool (decide (n < 0)), .slice A (natL n.natAbs).length c, .bool (decide (d < 0)), .slice B (natL d.natAbs).length e0] 27)) (.bool false) (.slice none 0 0) (.bool false) (.slice none 0 0)
  have b0 := ((Below.refl w.heap.size w).alloc (Nat.le_refl _) (.cells #[.bool (decide (n < 0)), .slice A (natL n.natAbs).length c, .bool (decide (d < 0)), .slice B (natL d.natAbs).length e0] 27)).alloc (by simp) (.cells #[.bool false, .slice none 0 0, .bool false, .slice none 0 0] 27)
  simp only [World.size_alloc] at pr
  have hn' : (natL n.natAbs).length ≤ 9223372036854775807 := by have := h.cap; have := h.most; omega
  have hd' : (natL d.natAbs).length ≤ 9223372036854775807 := by have := g.cap; have := g.most; omega
  have hbb : (decide (2048 < (natL n.natAbs).length) || decide (2048 < (natL d.natAbs).length)) = false := by
    have e1 : (natL n.natAbs).length ≤ 2048 := hn; have e2 : (natL d.natAbs).length ≤ 2048 := hd; simp; omega
  have C1 := fun (V : World) (g' : Nat) (hg : V.heap.size = g') => ref02_Long_any (decide (n < 0)) (decide (d < 0)) A B (natL n.natAbs).length c (natL d.natAbs).length e0 g' hn' hd' (V.alloc (.cells #[.bool (decide (n < 0)), .slice A (natL n.natAbs).length c, .bool (decide (d < 0)), .slice B (natL d.natAbs).length e0] 27)) (by subst hg; exact Quad.new V _ _ _ _)
  rw [hbb] at C1
  have H1 := Hd C1
  have RX := Hd (h.below b0)
  have KX := Hd (g.below b0)
  have PX := Hd px
  have PR := Hd pr
  have HB := Hd b0
  clear px pr b0 h g C1 hn' hd' hbb hn hd
  go_enter Tryz.func112, Tryz.ntmps112
  go_upto_region 1 with fail
  obtain ⟨W, E⟩ : ∃ W, W = (w.alloc (.cells #[.bool (decide (n < 0)), .slice A (natL n.natAbs).length c, .bool (decide (d < 0)), .slice B (natL d.natAbs).length e0] 27)).alloc (.cells #[.bool false, .slice none 0 0, .bool false, .slice none 0 0] 27) := ⟨_, rfl⟩
  rw [← E] at PX PR RX KX HB ⊢
  clear E
  obtain ⟨l_x, x0, x1, x2, x3, -, -, -, -⟩ := PX.out.facts
  go_wp2_with fail
  refine (H1.out W _ rfl).mono ?_
  rintro e wx1 ⟨rfl, hb⟩
  clear l_x x0 x1 x2 x3
  have hb := ((Below.refl W.heap.size W).alloc (Nat.le_refl _) (.cells #[.bool (decide (n < 0)), .slice A (natL n.natAbs).length c, .bool (decide (d < 0)), .slice B (natL d.natAbs).length e0] 27)).trans (hb.mono (by simp))
  have HS_wx1 := Hd (show W.heap.size ≤ wx1.heap.size from hb.size)
  have PX := Hd (PX.out.below hb)
  have PR := Hd (PR.out.below hb)
  have RX := Hd (RX.out.below hb)
  have KX := Hd (KX.out.below hb)
  have HB := Hd (belowTo HB.out hb)
  obtain ⟨l_x, x0, x1, x2, x3, -, -, -, -⟩ := PX.out.facts
  obtain ⟨l_r, r0, r1, r2, r3, fr0, fr1, fr2, fr3⟩ := PR.out.facts
  have HQ := Hd (PR.out.store (.bool (decide (n < 0))) (.slice A (natL n.natAbs).length c) (.bool (decide (d < 0))) (.slice B (natL d.natAbs).length e0))
  have HF := Hd (below4 HB.out (show w.heap.size ≤ w.heap.size + 1 by omega) (.bool (decide (n < 0))) (.slice A (natL n.natAbs).length c) (.bool (decide (d < 0))) (.slice B (natL d.natAbs).length e0))
  have R1 := Hd (RX.out.quad PR.out (.bool (decide (n < 0))) (.slice A (natL n.natAbs).length c) (.bool (decide (d < 0))) (.slice B (natL d.natAbs).length e0))
  have R2 := Hd (KX.out.quad PR.out (.bool (decide (n < 0))) (.slice A (natL n.natAbs).length c) (.bool (decide (d < 0))) (.slice B (natL d.natAbs).length e0))
  go_wp2_with fail
  obtain ⟨_, k0, k1, k2, k3, _⟩ := HQ.out.facts
  exact bodyPost_ret (by simp [results, Tryz.results112, go_sem, k0, k1, k2, k3]) rfl ⟨_, rfl, ⟨_, _, _, _, rfl, R1.out, R2.out⟩, HF.out⟩

theorem ref02_answered_long (n d : Int) (A B : Option Addr) (c e0 : Nat) (w : World) (h : Raw w A c (natL n.natAbs)) (g : Raw w B e0 (natL d.natAbs)) (hl : 2048 < lz n ∨ 2048 < lz d) :
    Calls Tryz.prog 112 #[.agg #[.bool (decide (n < 0)), .slice A (natL n.natAbs).length c, .bool (decide (d < 0)), .slice B (natL d.natAbs).length e0]] w (RetFrac2 w 0 0 4) := by
  have px := (Quad.new w (.bool (decide (n < 0))) (.slice A (natL n.natAbs).length c) (.bool (decide (d < 0))) (.slice B (natL d.natAbs).length e0)).alloc (.cells #[.bool false, .slice none 0 0, .bool false, .slice none 0 0] 27)
  have pr := Quad.new (w.alloc (.cells #[.bool (decide (n < 0)), .slice A (natL n.natAbs).length c, .bool (decide (d < 0)), .slice B (natL d.natAbs).length e0] 27)) (.bool false) (.slice none 0 0) (.bool false) (.slice none 0 0)
  have b0 := ((Below.refl w.heap.size w).alloc (Nat.le_refl _) (.cells #[.bool (decide (n < 0)), .slice A (natL n.natAbs).length c, .bool (decide (d < 0)), .slice B (natL d.natAbs).length e0] 27)).alloc (by simp) (.cells #[.bool false, .slice none 0 0, .bool false, .slice none 0 0] 27)
  simp only [World.size_alloc] at pr
  have hn' : (natL n.natAbs).length ≤ 9223372036854775807 := by have := h.cap; have := h.most; omega
  have hd' : (natL d.natAbs).length ≤ 9223372036854775807 := by have := g.cap; have := g.most; omega
  have hbb : (decide (2048 < (natL n.natAbs).length) || decide (2048 < (natL d.natAbs).length)) = true := by
    rcases hl with hl | hl <;> unfold lz at hl <;> simp [hl]
  have C1 := fun (V : World) (g' : Nat) (hg : V.heap.size = g') => ref02_Long_any (decide (n < 0)) (decide (d < 0)) A B (natL n.natAbs).length c (natL d.natAbs).length e0 g' hn' hd' (V.alloc (.cells #[.bool (decide (n < 0)), .slice A (natL n.natAbs).length c, .bool (decide (d < 0)), .slice B (natL d.natAbs).length e0] 27)) (by subst hg; exact Quad.new V _ _ _ _)
  rw [hbb] at C1
  have H1 := Hd C1
  have RX := Hd (h.below b0)
  have KX := Hd (g.below b0)
  have PX := Hd px
  have PR := Hd pr
  have HB := Hd b0
  clear px pr b0 h g C1 hn' hd' hbb hl
  go_enter Tryz.func112, Tryz.ntmps112
  go_upto_region 1 with fail
  obtain ⟨W, E⟩ : ∃ W, W = (w.alloc (.cells #[.bool (decide (n < 0)), .slice A (natL n.natAbs).length c, .bool (decide (d < 0)), .slice B (natL d.natAbs).length e0] 27)).alloc (.cells #[.bool false, .slice none 0 0, .bool false, .slice none 0 0] 27) := ⟨_, rfl⟩
  rw [← E] at PX PR RX KX HB ⊢
  clear E
  obtain ⟨l_x, x0, x1, x2, x3, -, -, -, -⟩ := PX.out.facts
  go_wp2_with fail
  refine (H1.out W _ rfl).mono ?_
  rintro e wx1 ⟨rfl, hb⟩
  clear l_x x0 x1 x2 x3
  have hb := ((Below.refl W.heap.size W).alloc (Nat.le_refl _) (.cells #[.bool (decide (n < 0)), .slice A (natL n.natAbs).length c, .bool (decide (d < 0)), .slice B (natL d.natAbs).length e0] 27)).trans (hb.mono (by simp))
  have HS_wx1 := Hd (show W.heap.size ≤ wx1.heap.size from hb.size)
  have PX := Hd (PX.out.below hb)
  have PR := Hd (PR.out.below hb)
  have RX := Hd (RX.out.below hb)
  have KX := Hd (KX.out.below hb)
  have HB := Hd (belowTo HB.out hb)
  obtain ⟨l_r, r0, r1, r2, r3, fr0, fr1, fr2, fr3⟩ := PR.out.facts
  have HQ := Hd (PR.out.store (.bool false) (.slice none 0 0) (.bool false) (.slice none 0 0))
  have HF := Hd (below4 HB.out (show w.heap.size ≤ w.heap.size + 1 by omega) (.bool false) (.slice none 0 0) (.bool false) (.slice none 0 0))
  go_wp2_with fail
  obtain ⟨_, k0, k1, k2, k3, _⟩ := HQ.out.facts
  exact bodyPost_ret (by simp [results, Tryz.results112, go_sem, k0, k1, k2, k3]) rfl ⟨_, rfl, (FracOwn.nought _ 0).at_, HF.out⟩

theorem ref02_answered (n d : Int) (A B : Option Addr) (c e0 : Nat) (w : World) (h : Raw w A c (natL n.natAbs)) (g : Raw w B e0 (natL d.natAbs)) :
    Calls Tryz.prog 112 #[.agg #[.bool (decide (n < 0)), .slice A (natL n.natAbs).length c, .bool (decide (d < 0)), .slice B (natL d.natAbs).length e0]] w (RetFrac2 w (ansN n d) (ansD n d) (ansK n d)) := by
  unfold ansN ansD ansK
  by_cases hl : lz n ≤ 2048 ∧ lz d ≤ 2048
  · simp only [if_pos hl]; exact ref02_answered_fits n d A B c e0 w h g hl.1 hl.2
  · simp only [if_neg hl]; exact ref02_answered_long n d A B c e0 w h g (by omega)

/- Text of whatever comes in, and Parse, of package frac and of the references. (Written by wip/frac/genparse.py.) -/

def txtT (b : Bool) (t : ByteArray) : ByteArray := if b then (if t.size ≤ 65536 then t else ⟨#[]⟩) else ⟨#[]⟩
def txtK (b : Bool) (t : ByteArray) : Int := if b then (if t.size ≤ 65536 then 0 else 4) else 1
theorem txt_bad (t : ByteArray) : txtT false t = ⟨#[]⟩ ∧ txtK false t = 1 := ⟨rfl, rfl⟩
theorem txt_good {t : ByteArray} (h : t.size ≤ 65536) : txtT true t = t ∧ txtK true t = 0 := by unfold txtT txtK; simp [h]
theorem txt_long {t : ByteArray} (h : ¬ t.size ≤ 65536) : txtT true t = ⟨#[]⟩ ∧ txtK true t = 4 := by unfold txtT txtK; simp [h]
def fprN (s : List UInt8) : Int := if 65536 < s.length then 0 else match readF s with
  | none => 0
  | some p => ansN p.1 p.2
def fprD (s : List UInt8) : Int := if 65536 < s.length then 0 else match readF s with
  | none => 0
  | some p => ansD p.1 p.2
def fprK (s : List UInt8) : Int := if 65536 < s.length then 4 else match readF s with
  | none => 5
  | some p => ansK p.1 p.2

theorem frac_Text_all (n1 n2 b : Bool) (A B : Option Addr) (c e0 : Nat) (xs ys : List Nat) (t : ByteArray) (hc : (chkE n1 n2 xs ys == 0) = b) (w : World) (h : Raw w A c xs) (g : Raw w B e0 ys) (htab : powTab w) (C2 : b = true → ∀ V, Raw V A c xs → Raw V B e0 ys → powTab V → Calls Tryz.prog 107 #[.agg #[.bool n1, .slice A xs.length c, .bool n2, .slice B ys.length e0]] V fun e w' => e = .returned (.string t) ∧ Below V.heap.size V w') :
    Calls Tryz.prog 28 #[.agg #[.bool n1, .slice A xs.length c, .bool n2, .slice B ys.length e0]] w fun e w' => e = .returned (.tuple #[.string (txtT b t), .int .i64 (txtK b t)]) ∧ Below w.heap.size w w' := by
  have C1 := fun (V : World) (g' : Nat) (h : Raw V A c xs) (g : Raw V B e0 ys) (hg : V.heap.size = g') => checks_new n1 n2 A B c e0 xs ys V g' h g hg
  rw [hc] at C1
  have H1 := Hd C1
  have H2 := Hd C2
  have px := Quad.new w (.bool n1) (.slice A xs.length c) (.bool n2) (.slice B ys.length e0)
  have b0 := (Below.refl w.heap.size w).alloc (Nat.le_refl _) (.cells #[.bool n1, .slice A xs.length c, .bool n2, .slice B ys.length e0] 27)
  have PX := Hd px
  have B0 := Hd b0
  have RX := Hd (h.below b0)
  have RY := Hd (g.below b0)
  have HTW := Hd htab
  clear px b0 h g C1 C2 htab hc
  go_enter Tryz.func28, Tryz.ntmps28
  obtain ⟨W, E⟩ : ∃ W, W = w.alloc (.cells #[.bool n1, .slice A xs.length c, .bool n2, .slice B ys.length e0] 27) := ⟨_, rfl⟩
  go_upto_region 1 with fail
  rw [← E] at PX B0 RX RY ⊢
  clear E
  obtain ⟨l_x, a_x, b_x, c_x, d_x, -, -, -, -⟩ := PX.out.facts
  go_wp2_with fail
  refine (H1.out W _ RX.out RY.out rfl).mono ?_
  rintro e w1 ⟨rfl, hb⟩
  have PX := Hd ((PX.out.alloc (.cells #[.bool n1, .slice A xs.length c, .bool n2, .slice B ys.length e0] 27)).below hb)
  have BB := Hd (belowTo (B0.out.alloc B0.out.size (.cells #[.bool n1, .slice A xs.length c, .bool n2, .slice B ys.length e0] 27)) hb)
  have RX := Hd ((RX.out.alloc (.cells #[.bool n1, .slice A xs.length c, .bool n2, .slice B ys.length e0] 27)).below hb)
  have RY := Hd ((RY.out.alloc (.cells #[.bool n1, .slice A xs.length c, .bool n2, .slice B ys.length e0] 27)).below hb)
  clear B0 hb l_x a_x b_x c_x d_x
  cases b
  case false =>
    have HX := Hd (txt_bad t)
    clear H2
    go_wp2_with fail
    go_ret2
    exact ⟨by rw [HX.out.1, HX.out.2]; rfl, BB.out⟩
  case true =>
    have H3 := Hd (H2.out rfl)
    clear H2
    obtain ⟨l_x, a_x, b_x, c_x, d_x, -, -, -, -⟩ := PX.out.facts
    go_wp2_with fail
    refine (H3.out w1 RX.out RY.out (HTW.out.below2 BB.out)).mono ?_
    rintro e w2 ⟨rfl, hb⟩
    have HF := Hd (belowTo BB.out hb)
    clear hb l_x a_x b_x c_x d_x
    by_cases hs : t.size ≤ 65536
    · have HX := Hd (txt_good hs)
      have hz : (t.size : Int) ≤ 65536 := by omega
      clear hs
      go_wp2_with fail
      go_ret2
      exact ⟨by rw [HX.out.1, HX.out.2]; rfl, HF.out⟩
    · have HX := Hd (txt_long hs)
      have hz : (65536 : Int) < (t.size : Int) := by omega
      clear hs
      go_wp2_with fail
      go_ret2
      exact ⟨by rw [HX.out.1, HX.out.2]; rfl, HF.out⟩
def RetPrsO (w : World) (T : Int → Int → Int → Prop) (e : Ending) (w' : World) : Prop := ∃ N D K, RetFracOwn2 w.heap.size w N D K e w' ∧ T N D K

theorem frac_Parse_all (s : ByteArray) (o : Option (Int × Int)) (w : World)  (ho : s.size ≤ 65536 → ∀ V, Calls Tryz.prog 109 #[.string s] V (RetReadF V o)) (T : Int → Int → Int → Prop) (t1 : 65536 < s.size → T 0 0 4) (t2 : s.size ≤ 65536 → o = none → T 0 0 5) (t3 : s.size ≤ 65536 → ∀ p, o = some p → T (ansN p.1 p.2) (ansD p.1 p.2) (ansK p.1 p.2)) :
    Calls Tryz.prog 30 #[.string s] w (RetPrsO w T) := by
  have H0 := Hd ho
  have T1 := Hd t1
  have T2 := Hd t2
  have T3 := Hd t3
  clear ho t1 t2 t3
  have b0 := ((Below.refl w.heap.size w).alloc (Nat.le_refl _) (.cells #[.bool false, .slice none 0 0, .bool false, .slice none 0 0] 27))
  have p0 := Quad.new w (.bool false) (.slice none 0 0) (.bool false) (.slice none 0 0)
  have P_r0 := Hd p0
  have HBW := Hd b0
  clear b0 p0 
  go_enter Tryz.func30, Tryz.ntmps30
  obtain ⟨W, E⟩ : ∃ W, W = (w.alloc (.cells #[.bool false, .slice none 0 0, .bool false, .slice none 0 0] 27)) := ⟨_, rfl⟩
  go_upto_region 1 with fail
  rw [← E] at P_r0 HBW ⊢
  clear E
  by_cases hl : 65536 < s.size
  · have hz : (65536 : Int) < (s.size : Int) := by omega
    have TT := Hd (T1.out hl)
    clear T1 T2 T3 H0 hl
    obtain ⟨l_r0, a_r0, b_r0, f_r0, g_r0⟩ := P_r0.out.facts
    have HQ := Hd (P_r0.out.store (.bool false) (.slice none 0 0) (.bool false) (.slice none 0 0))
    have HB := Hd (below4 HBW.out (show w.heap.size ≤ w.heap.size by omega) (.bool false) (.slice none 0 0) (.bool false) (.slice none 0 0))
    go_wp2_with fail
    obtain ⟨_, k0, k1, k2, k3, _, _, _, _⟩ := HQ.out.facts
    exact bodyPost_ret (by simp [results, Tryz.results30, go_sem, k0, k1, k2, k3]) rfl ⟨0, 0, _, ⟨_, rfl, FracOwn.nought _ _, HB.out⟩, TT.out⟩
  · have hz : (s.size : Int) ≤ 65536 := by omega
    have hz2 : ¬ (65536 : Int) < (s.size : Int) := by omega
    have H1 := Hd (H0.out (by omega))
    have U2 := Hd (T2.out (by omega))
    have U3 := Hd (T3.out (by omega))
    clear T1 T2 T3 H0 hl
    have hw0 := P_r0.out.blk.lt
    go_wp2_with fail
    refine (H1.out W).mono ?_
    rintro e x1 ⟨n, d, ⟨v, rfl, hF, hb⟩, hp⟩
    obtain ⟨A5, c5, A6, c6, rfl, hF1, hF2⟩ := hF.form
    have P_r0 := Hd (P_r0.out.below hb)
    have HBW := Hd (belowTo HBW.out hb)
    have ha := (Below.refl x1.heap.size x1).alloc (Nat.le_refl _) (.cells #[.bool (decide (n < 0)), .slice A5 (natL n.natAbs).length c5, .bool (decide (d < 0)), .slice A6 (natL d.natAbs).length c6] 27)
    have pp := Quad.new x1 (.bool (decide (n < 0))) (.slice A5 (natL n.natAbs).length c5) (.bool (decide (d < 0))) (.slice A6 (natL d.natAbs).length c6)
    go_upto_region 4 with fail
    obtain ⟨y1, E⟩ : ∃ Y, Y = x1.alloc (.cells #[.bool (decide (n < 0)), .slice A5 (natL n.natAbs).length c5, .bool (decide (d < 0)), .slice A6 (natL d.natAbs).length c6] 27) := ⟨_, rfl⟩
    rw [← E] at ha pp ⊢
    have P_r0 := Hd (P_r0.out.below ha)
    have HBW := Hd (belowTo HBW.out ha)
    have V_x := Hd (FV.mk pp (hF1.rawAt.below ha) (hF2.rawAt.below ha))
    have HPP := Hd hp
    obtain ⟨gx, hg⟩ : ∃ q, q = x1.heap.size := ⟨_, rfl⟩
    rw [← hg] at V_x ⊢
    clear E ha pp hb hF hF1 hF2 hp hg hw0
    cases o
    case none =>
      have TT := Hd (U2.out rfl)
      clear U2 U3 HPP
      obtain ⟨l_r0, a_r0, b_r0, f_r0, g_r0⟩ := P_r0.out.facts
      have HQ := Hd (P_r0.out.store (.bool false) (.slice none 0 0) (.bool false) (.slice none 0 0))
      have HB := Hd (below4 HBW.out (show w.heap.size ≤ w.heap.size by omega) (.bool false) (.slice none 0 0) (.bool false) (.slice none 0 0))
      go_wp2_with fail
      obtain ⟨_, k0, k1, k2, k3, _, _, _, _⟩ := HQ.out.facts
      exact bodyPost_ret (by simp [results, Tryz.results30, go_sem, k0, k1, k2, k3]) rfl ⟨0, 0, _, ⟨_, rfl, FracOwn.nought _ _, HB.out⟩, TT.out⟩
    case some p =>
      obtain rfl := HPP.out p rfl
      have TT := Hd (U3.out (n, d) rfl)
      clear U2 U3 HPP
      obtain ⟨l_x, a_x, b_x, c_x, d_x, -, -, -, -⟩ := V_x.out.quad.facts
      go_wp2_with fail
      refine (frac_answered n d A5 A6 c5 c6 y1 V_x.out.num V_x.out.den).mono ?_
      rintro e x2 ⟨v, rfl, hI, hb⟩
      obtain ⟨N, hN⟩ : ∃ k : Int, k = ansN n d := ⟨_, rfl⟩
      obtain ⟨D, hD⟩ : ∃ k : Int, k = ansD n d := ⟨_, rfl⟩
      obtain ⟨K, hK⟩ : ∃ k : Int, k = ansK n d := ⟨_, rfl⟩
      have TU := Hd (show T N D K by rw [hN, hD, hK]; exact TT.out)
      rw [← hN, ← hD] at hI
      rw [← hK]
      obtain ⟨A7, c7, A8, c8, rfl, -⟩ := hI.form
      have hy1 := HBW.out.size
      have P_r0 := Hd (P_r0.out.below hb)
      have HBW := Hd (belowTo HBW.out hb)
      have HI := Hd hI
      clear hI hb l_x a_x b_x c_x d_x V_x TT hN hD hK
      obtain ⟨l_r0, a_r0, b_r0, f_r0, g_r0⟩ := P_r0.out.facts
      have HQ := Hd (P_r0.out.store (.bool (decide (N < 0))) (.slice A7 (natL N.natAbs).length c7) (.bool (decide (D < 0))) (.slice A8 (natL D.natAbs).length c8))
      have HB := Hd (below4 HBW.out (show w.heap.size ≤ w.heap.size by omega) (.bool (decide (N < 0))) (.slice A7 (natL N.natAbs).length c7) (.bool (decide (D < 0))) (.slice A8 (natL D.natAbs).length c8))
      have HF9 := Hd ((HI.out.quad P_r0.out (.bool (decide (N < 0))) (.slice A7 (natL N.natAbs).length c7) (.bool (decide (D < 0))) (.slice A8 (natL D.natAbs).length c8)).base hy1)
      go_wp2_with fail
      obtain ⟨_, k0, k1, k2, k3, _, _, _, _⟩ := HQ.out.facts
      exact bodyPost_ret (by simp [results, Tryz.results30, go_sem, k0, k1, k2, k3]) rfl ⟨N, D, K, ⟨_, rfl, HF9.out, HB.out⟩, TU.out⟩

theorem frac_Parse (s : ByteArray) (w : World) :
    Calls Tryz.prog 30 #[.string s] w (RetFracOwn2 w.heap.size w (fprN s.data.toList) (fprD s.data.toList) (fprK s.data.toList)) := by
  have hsz : s.data.toList.length = s.size := by rw [Lib.size_eq]
  refine (frac_Parse_all s (readF s.data.toList) w (fun hs V => ratio_Read s hs V) (fun N D K => N = fprN s.data.toList ∧ D = fprD s.data.toList ∧ K = fprK s.data.toList) ?_ ?_ ?_).mono fun e w' ⟨N, D, K, h, e1, e2, e3⟩ => by rw [← e1, ← e2, ← e3]; exact h
  · intro h
    unfold fprN fprD fprK
    rw [if_pos (by omega), if_pos (by omega), if_pos (by omega)]
    exact ⟨rfl, rfl, rfl⟩
  · intro h ho
    unfold fprN fprD fprK
    rw [if_neg (by omega), if_neg (by omega), if_neg (by omega), ho]
    exact ⟨rfl, rfl, rfl⟩
  · intro h p ho
    unfold fprN fprD fprK
    rw [if_neg (by omega), if_neg (by omega), if_neg (by omega), ho]
    exact ⟨rfl, rfl, rfl⟩

theorem ref02_Text_all (n1 n2 b : Bool) (A B : Option Addr) (c e0 : Nat) (xs ys : List Nat) (t : ByteArray) (hc : (chkE n1 n2 xs ys == 0) = b) (w : World) (h : Raw w A c xs) (g : Raw w B e0 ys) (C2 : b = true → ∀ V, Raw V A c xs → Raw V B e0 ys → Calls Tryz.prog 108 #[.agg #[.bool n1, .slice A xs.length c, .bool n2, .slice B ys.length e0]] V fun e w' => e = .returned (.string t) ∧ Below V.heap.size V w') :
    Calls Tryz.prog 29 #[.agg #[.bool n1, .slice A xs.length c, .bool n2, .slice B ys.length e0]] w fun e w' => e = .returned (.tuple #[.string (txtT b t), .int .i64 (txtK b t)]) ∧ Below w.heap.size w w' := by
  have C1 := fun (V : World) (g' : Nat) (h : Raw V A c xs) (g : Raw V B e0 ys) (hg : V.heap.size = g') => rchecks_new n1 n2 A B c e0 xs ys V g' h g hg
  rw [hc] at C1
  have H1 := Hd C1
  have H2 := Hd C2
  have px := Quad.new w (.bool n1) (.slice A xs.length c) (.bool n2) (.slice B ys.length e0)
  have b0 := (Below.refl w.heap.size w).alloc (Nat.le_refl _) (.cells #[.bool n1, .slice A xs.length c, .bool n2, .slice B ys.length e0] 27)
  have PX := Hd px
  have B0 := Hd b0
  have RX := Hd (h.below b0)
  have RY := Hd (g.below b0)
  clear hc
  clear px b0 h g C1 C2
  go_enter Tryz.func29, Tryz.ntmps29
  obtain ⟨W, E⟩ : ∃ W, W = w.alloc (.cells #[.bool n1, .slice A xs.length c, .bool n2, .slice B ys.length e0] 27) := ⟨_, rfl⟩
  go_upto_region 1 with fail
  rw [← E] at PX B0 RX RY ⊢
  clear E
  obtain ⟨l_x, a_x, b_x, c_x, d_x, -, -, -, -⟩ := PX.out.facts
  go_wp2_with fail
  refine (H1.out W _ RX.out RY.out rfl).mono ?_
  rintro e w1 ⟨rfl, hb⟩
  have PX := Hd ((PX.out.alloc (.cells #[.bool n1, .slice A xs.length c, .bool n2, .slice B ys.length e0] 27)).below hb)
  have BB := Hd (belowTo (B0.out.alloc B0.out.size (.cells #[.bool n1, .slice A xs.length c, .bool n2, .slice B ys.length e0] 27)) hb)
  have RX := Hd ((RX.out.alloc (.cells #[.bool n1, .slice A xs.length c, .bool n2, .slice B ys.length e0] 27)).below hb)
  have RY := Hd ((RY.out.alloc (.cells #[.bool n1, .slice A xs.length c, .bool n2, .slice B ys.length e0] 27)).below hb)
  clear B0 hb l_x a_x b_x c_x d_x
  cases b
  case false =>
    have HX := Hd (txt_bad t)
    clear H2
    go_wp2_with fail
    go_ret2
    exact ⟨by rw [HX.out.1, HX.out.2]; rfl, BB.out⟩
  case true =>
    have H3 := Hd (H2.out rfl)
    clear H2
    obtain ⟨l_x, a_x, b_x, c_x, d_x, -, -, -, -⟩ := PX.out.facts
    go_wp2_with fail
    refine (H3.out w1 RX.out RY.out).mono ?_
    rintro e w2 ⟨rfl, hb⟩
    have HF := Hd (belowTo BB.out hb)
    clear hb l_x a_x b_x c_x d_x
    by_cases hs : t.size ≤ 65536
    · have HX := Hd (txt_good hs)
      have hz : (t.size : Int) ≤ 65536 := by omega
      clear hs
      go_wp2_with fail
      go_ret2
      exact ⟨by rw [HX.out.1, HX.out.2]; rfl, HF.out⟩
    · have HX := Hd (txt_long hs)
      have hz : (65536 : Int) < (t.size : Int) := by omega
      clear hs
      go_wp2_with fail
      go_ret2
      exact ⟨by rw [HX.out.1, HX.out.2]; rfl, HF.out⟩
def RetPrsR (w : World) (T : Int → Int → Int → Prop) (e : Ending) (w' : World) : Prop := ∃ N D K, RetFrac2 w N D K e w' ∧ T N D K

theorem ref02_Parse_all (s : ByteArray) (o : Option (Int × Int)) (w : World)  (ho : s.size ≤ 65536 → ∀ V, Calls Tryz.prog 111 #[.string s] V (RetReadF V o)) (T : Int → Int → Int → Prop) (t1 : 65536 < s.size → T 0 0 4) (t2 : s.size ≤ 65536 → o = none → T 0 0 5) (t3 : s.size ≤ 65536 → ∀ p, o = some p → T (ansN p.1 p.2) (ansD p.1 p.2) (ansK p.1 p.2)) :
    Calls Tryz.prog 31 #[.string s] w (RetPrsR w T) := by
  have H0 := Hd ho
  have T1 := Hd t1
  have T2 := Hd t2
  have T3 := Hd t3
  clear ho t1 t2 t3
  have b0 := ((Below.refl w.heap.size w).alloc (Nat.le_refl _) (.cells #[.bool false, .slice none 0 0, .bool false, .slice none 0 0] 27))
  have p0 := Quad.new w (.bool false) (.slice none 0 0) (.bool false) (.slice none 0 0)
  have P_r0 := Hd p0
  have HBW := Hd b0
  clear b0 p0 
  go_enter Tryz.func31, Tryz.ntmps31
  obtain ⟨W, E⟩ : ∃ W, W = (w.alloc (.cells #[.bool false, .slice none 0 0, .bool false, .slice none 0 0] 27)) := ⟨_, rfl⟩
  go_upto_region 1 with fail
  rw [← E] at P_r0 HBW ⊢
  clear E
  by_cases hl : 65536 < s.size
  · have hz : (65536 : Int) < (s.size : Int) := by omega
    have TT := Hd (T1.out hl)
    clear T1 T2 T3 H0 hl
    obtain ⟨l_r0, a_r0, b_r0, f_r0, g_r0⟩ := P_r0.out.facts
    have HQ := Hd (P_r0.out.store (.bool false) (.slice none 0 0) (.bool false) (.slice none 0 0))
    have HB := Hd (below4 HBW.out (show w.heap.size ≤ w.heap.size by omega) (.bool false) (.slice none 0 0) (.bool false) (.slice none 0 0))
    go_wp2_with fail
    obtain ⟨_, k0, k1, k2, k3, _, _, _, _⟩ := HQ.out.facts
    exact bodyPost_ret (by simp [results, Tryz.results31, go_sem, k0, k1, k2, k3]) rfl ⟨0, 0, _, ⟨_, rfl, (FracOwn.nought _ 0).at_, HB.out⟩, TT.out⟩
  · have hz : (s.size : Int) ≤ 65536 := by omega
    have hz2 : ¬ (65536 : Int) < (s.size : Int) := by omega
    have H1 := Hd (H0.out (by omega))
    have U2 := Hd (T2.out (by omega))
    have U3 := Hd (T3.out (by omega))
    clear T1 T2 T3 H0 hl
    have hw0 := P_r0.out.blk.lt
    go_wp2_with fail
    refine (H1.out W).mono ?_
    rintro e x1 ⟨n, d, ⟨v, rfl, hF, hb⟩, hp⟩
    obtain ⟨A5, c5, A6, c6, rfl, hF1, hF2⟩ := hF.form
    have P_r0 := Hd (P_r0.out.below hb)
    have HBW := Hd (belowTo HBW.out hb)
    have ha := (Below.refl x1.heap.size x1).alloc (Nat.le_refl _) (.cells #[.bool (decide (n < 0)), .slice A5 (natL n.natAbs).length c5, .bool (decide (d < 0)), .slice A6 (natL d.natAbs).length c6] 27)
    have pp := Quad.new x1 (.bool (decide (n < 0))) (.slice A5 (natL n.natAbs).length c5) (.bool (decide (d < 0))) (.slice A6 (natL d.natAbs).length c6)
    go_upto_region 4 with fail
    obtain ⟨y1, E⟩ : ∃ Y, Y = x1.alloc (.cells #[.bool (decide (n < 0)), .slice A5 (natL n.natAbs).length c5, .bool (decide (d < 0)), .slice A6 (natL d.natAbs).length c6] 27) := ⟨_, rfl⟩
    rw [← E] at ha pp ⊢
    have P_r0 := Hd (P_r0.out.below ha)
    have HBW := Hd (belowTo HBW.out ha)
    have V_x := Hd (FV.mk pp (hF1.rawAt.below ha) (hF2.rawAt.below ha))
    have HPP := Hd hp
    obtain ⟨gx, hg⟩ : ∃ q, q = x1.heap.size := ⟨_, rfl⟩
    rw [← hg] at V_x ⊢
    clear E ha pp hb hF hF1 hF2 hp hg hw0
    cases o
    case none =>
      have TT := Hd (U2.out rfl)
      clear U2 U3 HPP
      obtain ⟨l_r0, a_r0, b_r0, f_r0, g_r0⟩ := P_r0.out.facts
      have HQ := Hd (P_r0.out.store (.bool false) (.slice none 0 0) (.bool false) (.slice none 0 0))
      have HB := Hd (below4 HBW.out (show w.heap.size ≤ w.heap.size by omega) (.bool false) (.slice none 0 0) (.bool false) (.slice none 0 0))
      go_wp2_with fail
      obtain ⟨_, k0, k1, k2, k3, _, _, _, _⟩ := HQ.out.facts
      exact bodyPost_ret (by simp [results, Tryz.results31, go_sem, k0, k1, k2, k3]) rfl ⟨0, 0, _, ⟨_, rfl, (FracOwn.nought _ 0).at_, HB.out⟩, TT.out⟩
    case some p =>
      obtain rfl := HPP.out p rfl
      have TT := Hd (U3.out (n, d) rfl)
      clear U2 U3 HPP
      obtain ⟨l_x, a_x, b_x, c_x, d_x, -, -, -, -⟩ := V_x.out.quad.facts
      go_wp2_with fail
      refine (ref02_answered n d A5 A6 c5 c6 y1 V_x.out.num V_x.out.den).mono ?_
      rintro e x2 ⟨v, rfl, hI, hb⟩
      obtain ⟨N, hN⟩ : ∃ k : Int, k = ansN n d := ⟨_, rfl⟩
      obtain ⟨D, hD⟩ : ∃ k : Int, k = ansD n d := ⟨_, rfl⟩
      obtain ⟨K, hK⟩ : ∃ k : Int, k = ansK n d := ⟨_, rfl⟩
      have TU := Hd (show T N D K by rw [hN, hD, hK]; exact TT.out)
      rw [← hN, ← hD] at hI
      rw [← hK]
      obtain ⟨A7, c7, A8, c8, rfl, -⟩ := hI.form
      have hy1 := HBW.out.size
      have P_r0 := Hd (P_r0.out.below hb)
      have HBW := Hd (belowTo HBW.out hb)
      have HI := Hd hI
      clear hI hb l_x a_x b_x c_x d_x V_x TT hN hD hK
      obtain ⟨l_r0, a_r0, b_r0, f_r0, g_r0⟩ := P_r0.out.facts
      have HQ := Hd (P_r0.out.store (.bool (decide (N < 0))) (.slice A7 (natL N.natAbs).length c7) (.bool (decide (D < 0))) (.slice A8 (natL D.natAbs).length c8))
      have HB := Hd (below4 HBW.out (show w.heap.size ≤ w.heap.size by omega) (.bool (decide (N < 0))) (.slice A7 (natL N.natAbs).length c7) (.bool (decide (D < 0))) (.slice A8 (natL D.natAbs).length c8))
      have HF9 := Hd (HI.out.quad P_r0.out (.bool (decide (N < 0))) (.slice A7 (natL N.natAbs).length c7) (.bool (decide (D < 0))) (.slice A8 (natL D.natAbs).length c8))
      go_wp2_with fail
      obtain ⟨_, k0, k1, k2, k3, _, _, _, _⟩ := HQ.out.facts
      exact bodyPost_ret (by simp [results, Tryz.results31, go_sem, k0, k1, k2, k3]) rfl ⟨N, D, K, ⟨_, rfl, HF9.out, HB.out⟩, TU.out⟩

theorem ref02_Parse (s : ByteArray) (w : World) :
    Calls Tryz.prog 31 #[.string s] w (RetFrac2 w (fprN s.data.toList) (fprD s.data.toList) (fprK s.data.toList)) := by
  have hsz : s.data.toList.length = s.size := by rw [Lib.size_eq]
  refine (ref02_Parse_all s (readF s.data.toList) w (fun hs V => ref02_Read s hs V) (fun N D K => N = fprN s.data.toList ∧ D = fprD s.data.toList ∧ K = fprK s.data.toList) ?_ ?_ ?_).mono fun e w' ⟨N, D, K, h, e1, e2, e3⟩ => by rw [← e1, ← e2, ← e3]; exact h
  · intro h
    unfold fprN fprD fprK
    rw [if_pos (by omega), if_pos (by omega), if_pos (by omega)]
    exact ⟨rfl, rfl, rfl⟩
  · intro h ho
    unfold fprN fprD fprK
    rw [if_neg (by omega), if_neg (by omega), if_neg (by omega), ho]
    exact ⟨rfl, rfl, rfl⟩
  · intro h p ho
    unfold fprN fprD fprK
    rw [if_neg (by omega), if_neg (by omega), if_neg (by omega), ho]
    exact ⟨rfl, rfl, rfl⟩

theorem fpr_lz (s : List UInt8) : lz (fprN s) ≤ 2048 ∧ lz (fprD s) ≤ 2048 := by
  unfold fprN fprD
  split
  · decide
  · split
    · decide
    · exact ans_lz _ _
theorem text_spec (n1 n2 : Bool) (xs ys : List Nat) (hx : Limbs xs) (hy : Limbs ys) : ∃ (t : ByteArray) (k : Int),
    (∀ (V : World) (A B : Option Addr) (c e0 : Nat), Raw V A c xs → Raw V B e0 ys → powTab V → Calls Tryz.prog 28 #[.agg #[.bool n1, .slice A xs.length c, .bool n2, .slice B ys.length e0]] V fun e w' => e = .returned (.tuple #[.string t, .int .i64 k]) ∧ Below V.heap.size V w') ∧
    (∀ (V : World) (A B : Option Addr) (c e0 : Nat), Raw V A c xs → Raw V B e0 ys → Calls Tryz.prog 29 #[.agg #[.bool n1, .slice A xs.length c, .bool n2, .slice B ys.length e0]] V fun e w' => e = .returned (.tuple #[.string t, .int .i64 k]) ∧ Below V.heap.size V w') := by
  cases hc : (chkE n1 n2 xs ys == 0) with
  | false => exact ⟨_, _, fun V A B c e0 h g ht => frac_Text_all n1 n2 false A B c e0 xs ys ⟨#[]⟩ hc V h g ht (fun h => by cases h), fun V A B c e0 h g => ref02_Text_all n1 n2 false A B c e0 xs ys ⟨#[]⟩ hc V h g (fun h => by cases h)⟩
  | true =>
    obtain ⟨n, d, hf, rfl, rfl, rfl, rfl⟩ := fine_of (n1 := n1) (n2 := n2) hx hy (by simpa using hc)
    exact ⟨_, _, fun V A B c e0 h g ht => frac_Text_all _ _ true A B c e0 _ _ _ hc V h g ht (fun _ V' h g ht => ratio_Digits n d A B c e0 V' h g ht hf.num hf.den), fun V A B c e0 h g => ref02_Text_all _ _ true A B c e0 _ _ _ hc V h g (fun _ V' h g => ref02_Digits n d A B c e0 V' h g (Nat.le_trans hf.num (by decide)) (Nat.le_trans hf.den (by decide)))⟩
end Go.Proofs.YtipmkkobdbgphaaGreatDoor
