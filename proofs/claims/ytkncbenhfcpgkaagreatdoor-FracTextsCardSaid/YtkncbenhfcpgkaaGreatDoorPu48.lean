/- Several texts in one: FClos, TreesR, FRefMake, FRefDo. -/
import Derived.Test.YtkncbenhfcpgkaaGreatDoorPu44
import Derived.Test.YtkncbenhfcpgkaaGreatDoorPu31
import Derived.Test.YtkncbenhfcpgkaaGreatDoorPu30
import Derived.Test.YtkncbenhfcpgkaaGreatDoorPu17
import Derived.Test.YtkncbenhfcpgkaaGreatDoorPu39
import Derived.Test.YtkncbenhfcpgkaaGreatDoorPu15
import Derived.Test.YtkncbenhfcpgkaaGreatDoorPu16
import Derived.Test.YtkncbenhfcpgkaaGreatDoorPu24
import Derived.Test.YtkncbenhfcpgkaaGreatDoorPu04
import Derived.Test.YtkncbenhfcpgkaaGreatDoorPu05
import Derived.Test.YtkncbenhfcpgkaaGreatDoorPu08
import Derived.Test.YtkncbenhfcpgkaaGreatDoorPu23
import Derived.Test.YtkncbenhfcpgkaaGreatDoorPu03
import Derived.Test.YtkncbenhfcpgkaaGreatDoorPu02
import Derived.Test.YtkncbenhfcpgkaaGreatDoorPu01
import Derived.Test.YtkncbenhfcpgkaaGreatDoorPu22
import Derived.Test.YtkncbenhfcpgkaaGreatDoorPu07
import Derived.Test.YtkncbenhfcpgkaaGreatDoorPu06
import Derived.Test.YtkncbenhfcpgkaaGreatDoorPu14
import Derived.Test.YtkncbenhfcpgkaaGreatDoorPu11
import Derived.Test.YtkncbenhfcpgkaaGreatDoorPu13
import Derived.Test.YtkncbenhfcpgkaaGreatDoorPu12
import Derived.Test.YtkncbenhfcpgkaaGreatDoorPu29
import Derived.Test.YtkncbenhfcpgkaaGreatDoorPu28
import Derived.Test.YtkncbenhfcpgkaaGreatDoorPu42
import Derived.Test.YtkncbenhfcpgkaaGreatDoorPu20
import Derived.Test.YtkncbenhfcpgkaaGreatDoorPu25
import Derived.Test.YtkncbenhfcpgkaaGreatDoorPu19
import Derived.Test.YtkncbenhfcpgkaaGreatDoorPu27
import Derived.Test.YtkncbenhfcpgkaaGreatDoorPu18
import Derived.Test.YtkncbenhfcpgkaaGreatDoorPu09
import Derived.Test.YtkncbenhfcpgkaaGreatDoorPu26
import Derived.Test.YtkncbenhfcpgkaaGreatDoorPu10
import Derived.Test.YtkncbenhfcpgkaaGreatDoorPu43
import Derived.Test.YtkncbenhfcpgkaaGreatDoorPuHd
set_option maxRecDepth 100000
set_option maxHeartbeats 8000000
/- Add, Sub, Mul, Quo of package frac. (Written by wip/frac/genfclos2.py.) -/
namespace Go.Proofs.YtkncbenhfcpgkaaGreatDoor
open Go.RowKit

structure TupF (base : Nat) (n d k : Int) (u : Value) (V : World) : Prop where
  form : ∃ v, u = .tuple #[v, .int .i64 k] ∧ FracOwn V base v n d
theorem TupF.kept {base : Nat} {n d k : Int} {u : Value} {V V' : World} {B : Nat} {Ts : List TypeId} (h : TupF base n d k u V) (hk : KeptV B Ts V V') (hT : 70 ∉ Ts) : TupF base n d k u V' := by
  obtain ⟨v, h1, h2⟩ := h.form
  exact ⟨v, h1, h2.kept hk hT⟩
theorem FracIn.nought (w : World) (base : Nat) : FracIn w base (.agg #[.bool false, .slice none 0 0, .bool false, .slice none 0 0]) 0 0 := ⟨none, 0, none, 0, rfl, IntOwn.nought _ _, IntOwn.nought _ _⟩
structure BlkH (w : World) (g : Nat) (t : TypeId) (cs : Array Value) : Prop where
  blk : Blk w g t cs
theorem BlkH.below {w w' : World} {g : Nat} {t : TypeId} {cs : Array Value} (h : BlkH w g t cs) (hb : Below w.heap.size w w') : BlkH w' g t cs := ⟨h.blk.below hb h.blk.lt⟩

/- Plus, Minus, Times, Over, Cmp of the references of chapter 02. (Written by wip/frac/gentrees.py.) -/

structure TurnIn (z d : Int) (B : Option Addr) (e0 : Nat) (v : Value) (V : World) : Prop where
  form : ∃ A c, v = .agg #[.bool (decide (z < 0)), .slice A (natL z.natAbs).length c, .bool (decide (d < 0)), .slice B (natL d.natAbs).length e0] ∧ IntOwn V 0 (.agg #[.bool (decide (z < 0)), .slice A (natL z.natAbs).length c]) z
theorem TurnIn.kept {z d : Int} {B : Option Addr} {e0 b : Nat} {v : Value} {V V' : World} {Ts : List TypeId} (h : TurnIn z d B e0 v V) (k : KeptV b Ts V V') (hT : 70 ∉ Ts) : TurnIn z d B e0 v V' := by
  obtain ⟨A, c, h1, h2⟩ := h.form
  exact ⟨A, c, h1, h2.kept k hT⟩
theorem TurnIn.cells {z d : Int} {B : Option Addr} {e0 : Nat} {v : Value} {V : World} (h : TurnIn z d B e0 v V) : CellsN v 4 := by
  obtain ⟨A, c, rfl, -⟩ := h.form
  exact ⟨rfl, by simp [Value.cells, Value.oneCell']⟩

/- Make of the references of chapter 02. (Written by wip/frac/genfmake.py ref.) -/

def RetFrac2 (w : World) (n d k : Int) (e : Ending) (w' : World) : Prop := ∃ v, e = .returned (.tuple #[v, .int .i64 k]) ∧ FracAt w' v n d ∧ Below w.heap.size w w'
theorem FracAt.quad {w : World} {g : Nat} {v : Value} {n d : Int} (h : FracAt w v n d) {b1 b2 : Bool} {A1 A2 : Option Addr} {n1 n2 c1 c2 : Nat} (q : Quad w g (.bool b1) (.slice A1 n1 c1) (.bool b2) (.slice A2 n2 c2)) (x y z u : Value) : FracAt ((((w.setCell ⟨g, 0, none⟩ x).setCell ⟨g, 1, none⟩ y).setCell ⟨g, 2, none⟩ z).setCell ⟨g, 3, none⟩ u) v n d := by
  obtain ⟨A, k, B, e, h1, h2, h3⟩ := h.form
  exact ⟨A, k, B, e, h1, h2.quad q _ _ _ _, h3.quad q _ _ _ _⟩

/- Do of the references of chapter 02; do of the laws. (Written by wip/frac/genfrefdo.py.) -/

theorem ref02_Long_a (b1 b2 : Bool) (A B : Option Addr) (n c m e0 g : Nat) (hn : n ≤ 9223372036854775807) (hl : 2048 < n) (w : World) (q : Quad w g (.bool b1) (.slice A n c) (.bool b2) (.slice B m e0)) :
    Calls Tryz.prog 176 #[.slice (some ⟨g, 0, none⟩) 1 1] w fun e w' => e = .returned (.bool true) ∧ Below w.heap.size w w' := by
  have C1 := fun V => ref_Long b1 A n c hn V
  rw [decide_eq_true (show 2048 < n from hl)] at C1
  have H1 := Hd C1
  have HQ := Hd q
  clear C1 hl q hn
  go_enter Tryz.func176, Tryz.ntmps176
  go_wp2_with fail
  go_loopw [3] (fun s wr => ∃ i : Nat, s = .int .i64 i ∧ i ≤ 0 ∧ Below w.heap.size w wr) (fun s _ => 1 - (intOf s).toNat)
  case atStart => exact ⟨0, rfl, by omega, Below.refl _ _⟩
  case round =>
    obtain ⟨i, rfl, hi, hb⟩ := hrel
    obtain rfl : i = 0 := by omega
    clear hi
    obtain ⟨x0, x1, x2, x3, x4, -, -, -, -⟩ := (HQ.out.below hb).facts
    have HB := Hd hb
    clear hb
    go_wp2_with ((go_at_call 125; with_reducible refine (H1.out _).mono ?_; rintro e w1 ⟨rfl, hb1⟩; have B1 := belowTo HB.out hb1; have q4 := HQ.out.below B1; obtain ⟨l4, y0, y1, y2, y3, -, -, -, -⟩ := q4.facts))
    go_ret
    exact ⟨rfl, B1⟩

theorem ref02_Long_b (b1 b2 : Bool) (A B : Option Addr) (n c m e0 g : Nat) (hn : n ≤ 9223372036854775807) (hm : m ≤ 9223372036854775807) (hl : n ≤ 2048) (hl2 : 2048 < m) (w : World) (q : Quad w g (.bool b1) (.slice A n c) (.bool b2) (.slice B m e0)) :
    Calls Tryz.prog 176 #[.slice (some ⟨g, 0, none⟩) 1 1] w fun e w' => e = .returned (.bool true) ∧ Below w.heap.size w w' := by
  have C1 := fun V => ref_Long b1 A n c hn V
  rw [decide_eq_false (show ¬ 2048 < n from by omega)] at C1
  have C2 := fun V => ref_Long b2 B m e0 hm V
  rw [decide_eq_true (show 2048 < m from hl2)] at C2
  have H2 := Hd C2
  clear C2 hl2
  have H1 := Hd C1
  have HQ := Hd q
  clear C1 hl q hn hm
  go_enter Tryz.func176, Tryz.ntmps176
  go_wp2_with fail
  go_loopw [3] (fun s wr => ∃ i : Nat, s = .int .i64 i ∧ i ≤ 0 ∧ Below w.heap.size w wr) (fun s _ => 1 - (intOf s).toNat)
  case atStart => exact ⟨0, rfl, by omega, Below.refl _ _⟩
  case round =>
    obtain ⟨i, rfl, hi, hb⟩ := hrel
    obtain rfl : i = 0 := by omega
    clear hi
    obtain ⟨x0, x1, x2, x3, x4, -, -, -, -⟩ := (HQ.out.below hb).facts
    have HB := Hd hb
    clear hb
    go_wp2_with (first | (go_at_call 125; with_reducible refine (H1.out _).mono ?_; rintro e w1 ⟨rfl, hb1⟩; have B1 := belowTo HB.out hb1; have q4 := HQ.out.below B1; obtain ⟨l4, y0, y1, y2, y3, -, -, -, -⟩ := q4.facts) | (go_at_call 125; with_reducible refine (H2.out _).mono ?_; rintro e w2 ⟨rfl, hb2⟩; have B2 := belowTo B1 hb2))
    go_ret
    exact ⟨rfl, B2⟩

theorem ref02_Long_c (b1 b2 : Bool) (A B : Option Addr) (n c m e0 g : Nat) (hn : n ≤ 9223372036854775807) (hm : m ≤ 9223372036854775807) (hl : n ≤ 2048) (hl2 : m ≤ 2048) (w : World) (q : Quad w g (.bool b1) (.slice A n c) (.bool b2) (.slice B m e0)) :
    Calls Tryz.prog 176 #[.slice (some ⟨g, 0, none⟩) 1 1] w fun e w' => e = .returned (.bool false) ∧ Below w.heap.size w w' := by
  have C1 := fun V => ref_Long b1 A n c hn V
  rw [decide_eq_false (show ¬ 2048 < n from by omega)] at C1
  have C2 := fun V => ref_Long b2 B m e0 hm V
  rw [decide_eq_false (show ¬ 2048 < m from by omega)] at C2
  have H2 := Hd C2
  clear C2 hl2
  have H1 := Hd C1
  have HQ := Hd q
  clear C1 hl q hn hm
  go_enter Tryz.func176, Tryz.ntmps176
  go_wp2_with fail
  go_loopw [3] (fun s wr => ∃ i : Nat, s = .int .i64 i ∧ i ≤ 1 ∧ Below w.heap.size w wr) (fun s _ => 1 - (intOf s).toNat)
  case atStart => exact ⟨0, rfl, by omega, Below.refl _ _⟩
  case round =>
    obtain ⟨i, rfl, hi, hb⟩ := hrel
    by_cases hlt : i < 1
    · obtain rfl : i = 0 := by omega
      clear hi hlt
      obtain ⟨x0, x1, x2, x3, x4, -, -, -, -⟩ := (HQ.out.below hb).facts
      have HB := Hd hb
      clear hb
      go_wp2_with (first | (go_at_call 125; with_reducible refine (H1.out _).mono ?_; rintro e w1 ⟨rfl, hb1⟩; have B1 := belowTo HB.out hb1; have q4 := HQ.out.below B1; obtain ⟨l4, y0, y1, y2, y3, -, -, -, -⟩ := q4.facts) | (go_at_call 125; with_reducible refine (H2.out _).mono ?_; rintro e w2 ⟨rfl, hb2⟩; have B2 := belowTo B1 hb2))
      go_roundw
      case rel => exact ⟨1, by go_num, Nat.le_refl _, B2⟩
      case measure => simp [intOf]
    · obtain rfl : i = 1 := by omega
      have HB := Hd hb
      clear hb hi hlt
      go_wp2_with fail
      go_ret
      exact ⟨rfl, HB.out⟩

theorem ref02_Long_any (b1 b2 : Bool) (A B : Option Addr) (n c m e0 g : Nat) (hn : n ≤ 9223372036854775807) (hm : m ≤ 9223372036854775807) (w : World) (q : Quad w g (.bool b1) (.slice A n c) (.bool b2) (.slice B m e0)) :
    Calls Tryz.prog 176 #[.slice (some ⟨g, 0, none⟩) 1 1] w fun e w' => e = .returned (.bool (decide (2048 < n) || decide (2048 < m))) ∧ Below w.heap.size w w' := by
  by_cases h1 : 2048 < n
  · have := ref02_Long_a b1 b2 A B n c m e0 g hn h1 w q
    simpa [h1] using this
  · by_cases h2 : 2048 < m
    · have := ref02_Long_b b1 b2 A B n c m e0 g hn hm (by omega) h2 w q
      simpa [h1, h2] using this
    · have := ref02_Long_c b1 b2 A B n c m e0 g hn hm (by omega) (by omega) w q
      simpa [h1, h2] using this

theorem ref02_answered_fits (n d : Int) (A B : Option Addr) (c e0 : Nat) (w : World) (h : Raw w A c (natL n.natAbs)) (g : Raw w B e0 (natL d.natAbs)) (hn : lz n ≤ 2048) (hd : lz d ≤ 2048) :
    Calls Tryz.prog 103 #[.agg #[.bool (decide (n < 0)), .slice A (natL n.natAbs).length c, .bool (decide (d < 0)), .slice B (natL d.natAbs).length e0]] w (RetFrac2 w n d 0) := by
  have px := (Quad.new w (.bool (decide (n < 0))) (.slice A (natL n.natAbs).length c) (.bool (decide (d < 0))) (.slice B (natL d.natAbs).length e0)).alloc (.cells #[.bool false, .slice none 0 0, .bool false, .slice none 0 0] 56)
  have pr := Quad.new (w.alloc (.cells #[.bool (decide (n < 0)), .slice A (natL n.natAbs).length c, .bool (decide (d < 0)), .slice B (natL d.natAbs).length e0] 56)) (.bool false) (.slice none 0 0) (.bool false) (.slice none 0 0)
  have b0 := ((Below.refl w.heap.size w).alloc (Nat.le_refl _) (.cells #[.bool (decide (n < 0)), .slice A (natL n.natAbs).length c, .bool (decide (d < 0)), .slice B (natL d.natAbs).length e0] 56)).alloc (by simp) (.cells #[.bool false, .slice none 0 0, .bool false, .slice none 0 0] 56)
  simp only [World.size_alloc] at pr
  have hn' : (natL n.natAbs).length ≤ 9223372036854775807 := by have := h.cap; have := h.most; omega
  have hd' : (natL d.natAbs).length ≤ 9223372036854775807 := by have := g.cap; have := g.most; omega
  have hbb : (decide (2048 < (natL n.natAbs).length) || decide (2048 < (natL d.natAbs).length)) = false := by
    have e1 : (natL n.natAbs).length ≤ 2048 := hn; have e2 : (natL d.natAbs).length ≤ 2048 := hd; simp; omega
  have C1 := fun (V : World) (g' : Nat) (hg : V.heap.size = g') => ref02_Long_any (decide (n < 0)) (decide (d < 0)) A B (natL n.natAbs).length c (natL d.natAbs).length e0 g' hn' hd' (V.alloc (.cells #[.bool (decide (n < 0)), .slice A (natL n.natAbs).length c, .bool (decide (d < 0)), .slice B (natL d.natAbs).length e0] 56)) (by subst hg; exact Quad.new V _ _ _ _)
  rw [hbb] at C1
  have H1 := Hd C1
  have RX := Hd (h.below b0)
  have KX := Hd (g.below b0)
  have PX := Hd px
  have PR := Hd pr
  have HB := Hd b0
  clear px pr b0 h g C1 hn' hd' hbb hn hd
  go_enter Tryz.func103, Tryz.ntmps103
  go_upto_region 1 with fail
  obtain ⟨W, E⟩ : ∃ W, W = (w.alloc (.cells #[.bool (decide (n < 0)), .slice A (natL n.natAbs).length c, .bool (decide (d < 0)), .slice B (natL d.natAbs).length e0] 56)).alloc (.cells #[.bool false, .slice none 0 0, .bool false, .slice none 0 0] 56) := ⟨_, rfl⟩
  rw [← E] at PX PR RX KX HB ⊢
  clear E
  obtain ⟨l_x, x0, x1, x2, x3, -, -, -, -⟩ := PX.out.facts
  go_wp2_with fail
  refine (H1.out W _ rfl).mono ?_
  rintro e wx1 ⟨rfl, hb⟩
  clear l_x x0 x1 x2 x3
  have hb := ((Below.refl W.heap.size W).alloc (Nat.le_refl _) (.cells #[.bool (decide (n < 0)), .slice A (natL n.natAbs).length c, .bool (decide (d < 0)), .slice B (natL d.natAbs).length e0] 56)).trans (hb.mono (by simp))
  have HS_wx1 := Hd (show W.heap.size ≤ wx1.heap.size from hb.size)
  have PX := Hd (PX.out.below hb)
  have PR := Hd (PR.out.below hb)
  have RX := Hd (RX.out.below hb)
  have KX := Hd (KX.out.below hb)
  have HB := Hd (belowTo HB.out hb)
  obtain ⟨l_x, x0, x1, x2, x3, -, -, -, -⟩ := PX.out.facts
  obtain ⟨l_r, r0, r1, r2, r3, fr0, fr1, fr2, fr3⟩ := PR.out.facts
  have HQ := Hd (PR.out.store (.bool (decide (n < 0))) (.slice A (natL n.natAbs).length c) (.bool (decide (d < 0))) (.slice B (natL d.natAbs).length e0))
  have HF := Hd (below4 HB.out (show w.heap.size ≤ w.heap.size + 1 by omega) (.bool (decide (n < 0))) (.slice A (natL n.natAbs).length c) (.bool (decide (d < 0))) (.slice B (natL d.natAbs).length e0))
  have R1 := Hd (RX.out.quad PR.out (.bool (decide (n < 0))) (.slice A (natL n.natAbs).length c) (.bool (decide (d < 0))) (.slice B (natL d.natAbs).length e0))
  have R2 := Hd (KX.out.quad PR.out (.bool (decide (n < 0))) (.slice A (natL n.natAbs).length c) (.bool (decide (d < 0))) (.slice B (natL d.natAbs).length e0))
  go_wp2_with fail
  obtain ⟨_, k0, k1, k2, k3, _⟩ := HQ.out.facts
  exact bodyPost_ret (by simp [results, Tryz.results103, go_sem, k0, k1, k2, k3]) rfl ⟨_, rfl, ⟨_, _, _, _, rfl, R1.out, R2.out⟩, HF.out⟩

theorem ref02_answered_long (n d : Int) (A B : Option Addr) (c e0 : Nat) (w : World) (h : Raw w A c (natL n.natAbs)) (g : Raw w B e0 (natL d.natAbs)) (hl : 2048 < lz n ∨ 2048 < lz d) :
    Calls Tryz.prog 103 #[.agg #[.bool (decide (n < 0)), .slice A (natL n.natAbs).length c, .bool (decide (d < 0)), .slice B (natL d.natAbs).length e0]] w (RetFrac2 w 0 0 4) := by
  have px := (Quad.new w (.bool (decide (n < 0))) (.slice A (natL n.natAbs).length c) (.bool (decide (d < 0))) (.slice B (natL d.natAbs).length e0)).alloc (.cells #[.bool false, .slice none 0 0, .bool false, .slice none 0 0] 56)
  have pr := Quad.new (w.alloc (.cells #[.bool (decide (n < 0)), .slice A (natL n.natAbs).length c, .bool (decide (d < 0)), .slice B (natL d.natAbs).length e0] 56)) (.bool false) (.slice none 0 0) (.bool false) (.slice none 0 0)
  have b0 := ((Below.refl w.heap.size w).alloc (Nat.le_refl _) (.cells #[.bool (decide (n < 0)), .slice A (natL n.natAbs).length c, .bool (decide (d < 0)), .slice B (natL d.natAbs).length e0] 56)).alloc (by simp) (.cells #[.bool false, .slice none 0 0, .bool false, .slice none 0 0] 56)
  simp only [World.size_alloc] at pr
  have hn' : (natL n.natAbs).length ≤ 9223372036854775807 := by have := h.cap; have := h.most; omega
  have hd' : (natL d.natAbs).length ≤ 9223372036854775807 := by have := g.cap; have := g.most; omega
  have hbb : (decide (2048 < (natL n.natAbs).length) || decide (2048 < (natL d.natAbs).length)) = true := by
    rcases hl with hl | hl <;> unfold lz at hl <;> simp [hl]
  have C1 := fun (V : World) (g' : Nat) (hg : V.heap.size = g') => ref02_Long_any (decide (n < 0)) (decide (d < 0)) A B (natL n.natAbs).length c (natL d.natAbs).length e0 g' hn' hd' (V.alloc (.cells #[.bool (decide (n < 0)), .slice A (natL n.natAbs).length c, .bool (decide (d < 0)), .slice B (natL d.natAbs).length e0] 56)) (by subst hg; exact Quad.new V _ _ _ _)
  rw [hbb] at C1
  have H1 := Hd C1
  have RX := Hd (h.below b0)
  have KX := Hd (g.below b0)
  have PX := Hd px
  have PR := Hd pr
  have HB := Hd b0
  clear px pr b0 h g C1 hn' hd' hbb hl
  go_enter Tryz.func103, Tryz.ntmps103
  go_upto_region 1 with fail
  obtain ⟨W, E⟩ : ∃ W, W = (w.alloc (.cells #[.bool (decide (n < 0)), .slice A (natL n.natAbs).length c, .bool (decide (d < 0)), .slice B (natL d.natAbs).length e0] 56)).alloc (.cells #[.bool false, .slice none 0 0, .bool false, .slice none 0 0] 56) := ⟨_, rfl⟩
  rw [← E] at PX PR RX KX HB ⊢
  clear E
  obtain ⟨l_x, x0, x1, x2, x3, -, -, -, -⟩ := PX.out.facts
  go_wp2_with fail
  refine (H1.out W _ rfl).mono ?_
  rintro e wx1 ⟨rfl, hb⟩
  clear l_x x0 x1 x2 x3
  have hb := ((Below.refl W.heap.size W).alloc (Nat.le_refl _) (.cells #[.bool (decide (n < 0)), .slice A (natL n.natAbs).length c, .bool (decide (d < 0)), .slice B (natL d.natAbs).length e0] 56)).trans (hb.mono (by simp))
  have HS_wx1 := Hd (show W.heap.size ≤ wx1.heap.size from hb.size)
  have PX := Hd (PX.out.below hb)
  have PR := Hd (PR.out.below hb)
  have RX := Hd (RX.out.below hb)
  have KX := Hd (KX.out.below hb)
  have HB := Hd (belowTo HB.out hb)
  obtain ⟨l_r, r0, r1, r2, r3, fr0, fr1, fr2, fr3⟩ := PR.out.facts
  have HQ := Hd (PR.out.store (.bool false) (.slice none 0 0) (.bool false) (.slice none 0 0))
  have HF := Hd (below4 HB.out (show w.heap.size ≤ w.heap.size + 1 by omega) (.bool false) (.slice none 0 0) (.bool false) (.slice none 0 0))
  go_wp2_with fail
  obtain ⟨_, k0, k1, k2, k3, _⟩ := HQ.out.facts
  exact bodyPost_ret (by simp [results, Tryz.results103, go_sem, k0, k1, k2, k3]) rfl ⟨_, rfl, (FracOwn.nought _ 0).at_, HF.out⟩

theorem ref02_answered (n d : Int) (A B : Option Addr) (c e0 : Nat) (w : World) (h : Raw w A c (natL n.natAbs)) (g : Raw w B e0 (natL d.natAbs)) :
    Calls Tryz.prog 103 #[.agg #[.bool (decide (n < 0)), .slice A (natL n.natAbs).length c, .bool (decide (d < 0)), .slice B (natL d.natAbs).length e0]] w (RetFrac2 w (ansN n d) (ansD n d) (ansK n d)) := by
  unfold ansN ansD ansK
  by_cases hl : lz n ≤ 2048 ∧ lz d ≤ 2048
  · simp only [if_pos hl]; exact ref02_answered_fits n d A B c e0 w h g hl.1 hl.2
  · simp only [if_neg hl]; exact ref02_answered_long n d A B c e0 w h g (by omega)

end Go.Proofs.YtkncbenhfcpgkaaGreatDoor
