/- Several texts in one: FLong, FAnswered, FMake, RefInt64. -/
import Derived.Test.YtkncbenhfcpgkaaGreatDoorPu27
import Derived.Test.YtkncbenhfcpgkaaGreatDoorPuHd
import Derived.Test.YtkncbenhfcpgkaaGreatDoorPu07
import Derived.Test.YtkncbenhfcpgkaaGreatDoorPu22
import Derived.Test.YtkncbenhfcpgkaaGreatDoorPu06
import Derived.Test.YtkncbenhfcpgkaaGreatDoorPu04
import Derived.Test.YtkncbenhfcpgkaaGreatDoorPu03
import Derived.Test.YtkncbenhfcpgkaaGreatDoorPu01
import Derived.Test.YtkncbenhfcpgkaaGreatDoorPu02
import Derived.Test.YtkncbenhfcpgkaaGreatDoorPu05
import Derived.Test.YtkncbenhfcpgkaaGreatDoorPu25
import Derived.Test.YtkncbenhfcpgkaaGreatDoorPu18
import Derived.Test.YtkncbenhfcpgkaaGreatDoorPu19
import Derived.Test.YtkncbenhfcpgkaaGreatDoorPu14
import Derived.Test.YtkncbenhfcpgkaaGreatDoorPu23
import Derived.Test.YtkncbenhfcpgkaaGreatDoorPu08
import Derived.Test.YtkncbenhfcpgkaaGreatDoorPu11
import Derived.Test.YtkncbenhfcpgkaaGreatDoorPu13
import Derived.Test.YtkncbenhfcpgkaaGreatDoorPu12
import Derived.Test.YtkncbenhfcpgkaaGreatDoorPu16
import Derived.Test.YtkncbenhfcpgkaaGreatDoorPu24
import Derived.Test.YtkncbenhfcpgkaaGreatDoorPu17
import Derived.Test.YtkncbenhfcpgkaaGreatDoorPu15
import Derived.Test.YtkncbenhfcpgkaaGreatDoorPu09
import Derived.Test.YtkncbenhfcpgkaaGreatDoorPu26
import Derived.Test.YtkncbenhfcpgkaaGreatDoorPu20
import Derived.Deep.RegionWith
set_option maxRecDepth 100000
set_option maxHeartbeats 8000000
/- Long and Answer of package ratio at one fraction. (Written by wip/frac/genflong.py.) -/
namespace Go.Proofs.YtkncbenhfcpgkaaGreatDoor
open Go.RowKit

theorem flong_one (b : Bool) (A : Option Addr) (n c : Nat) (hn : n ≤ 9223372036854775807) (V : World) (g : Nat) (hg : V.heap.size = g) :
    Calls Tryz.prog 227 #[.slice (some ⟨g, 0, none⟩) 1 1] (V.alloc (.cells #[.bool b, .slice A n c] 24)) fun e w' => e = .returned (.bool (decide (2048 < n))) ∧ Below (V.alloc (.cells #[.bool b, .slice A n c] 24)).heap.size (V.alloc (.cells #[.bool b, .slice A n c] 24)) w' := by
  have := exact_Long (some ⟨g, 0, none⟩) 1 [(b, A, n, c)] (by simp) (by simp; omega) (V.alloc (.cells #[.bool b, .slice A n c] 24)) (by subst hg; exact (Reads.new1 V 24 2 [.bool b, .slice A n c] rfl).more (by simp))
  simpa using this

theorem ratio_Long_a (b1 b2 : Bool) (A B : Option Addr) (n c m e0 g : Nat) (hn : n ≤ 9223372036854775807) (hl : 2048 < n) (w : World) (q : Quad w g (.bool b1) (.slice A n c) (.bool b2) (.slice B m e0)) :
    Calls Tryz.prog 205 #[.slice (some ⟨g, 0, none⟩) 1 1] w fun e w' => e = .returned (.bool true) ∧ Below w.heap.size w w' := by
  have C1 := fun V g' hg => flong_one b1 A n c hn V g' hg
  rw [decide_eq_true (show 2048 < n from hl)] at C1
  have H1 := Hd C1
  have HQ := Hd q
  clear C1 hl q hn
  go_enter Tryz.func205, Tryz.ntmps205
  go_wp2_with fail
  go_loopw [7] (fun s wr => ∃ i : Nat, s = .int .i64 i ∧ i ≤ 0 ∧ Below w.heap.size w wr) (fun s _ => 1 - (intOf s).toNat)
  case atStart => exact ⟨0, rfl, by omega, Below.refl _ _⟩
  case round =>
    obtain ⟨i, rfl, hi, hb⟩ := hrel
    obtain rfl : i = 0 := by omega
    clear hi
    obtain ⟨x0, x1, x2, x3, x4, -, -, -, -⟩ := (HQ.out.below hb).facts
    have HB := Hd hb
    clear hb
    go_wp2_with (first | (go_at_call 227; with_reducible refine (H1.out _ _ (by simp)).mono ?_; rintro e w1 ⟨rfl, hb1⟩; have q4 := ((Quad.new wr (.bool b1) (.slice A n c) (.bool b2) (.slice B m e0)).alloc (.cells #[.bool b1, .slice A n c] 24)).below hb1; have B1 := belowTo ((HB.out.alloc HB.out.size _).alloc (by simp; have := HB.out.size; omega) _) hb1; obtain ⟨l4, y0, y1, y2, y3, -, -, -, -⟩ := q4.facts) | (go_at_call 227; with_reducible refine (H2.out _ _ rfl).mono ?_; rintro e w2 ⟨rfl, hb2⟩; have B2 := belowTo (B1.alloc B1.size _) hb2))
    go_ret
    exact ⟨rfl, B1⟩

theorem ratio_Long_b (b1 b2 : Bool) (A B : Option Addr) (n c m e0 g : Nat) (hn : n ≤ 9223372036854775807) (hm : m ≤ 9223372036854775807) (hl : n ≤ 2048) (hl2 : 2048 < m) (w : World) (q : Quad w g (.bool b1) (.slice A n c) (.bool b2) (.slice B m e0)) :
    Calls Tryz.prog 205 #[.slice (some ⟨g, 0, none⟩) 1 1] w fun e w' => e = .returned (.bool true) ∧ Below w.heap.size w w' := by
  have C1 := fun V g' hg => flong_one b1 A n c hn V g' hg
  rw [decide_eq_false (show ¬ 2048 < n from by omega)] at C1
  have C2 := fun V g' hg => flong_one b2 B m e0 hm V g' hg
  rw [decide_eq_true (show 2048 < m from hl2)] at C2
  have H2 := Hd C2
  clear C2 hl2
  have H1 := Hd C1
  have HQ := Hd q
  clear C1 hl q hn hm
  go_enter Tryz.func205, Tryz.ntmps205
  go_wp2_with fail
  go_loopw [7] (fun s wr => ∃ i : Nat, s = .int .i64 i ∧ i ≤ 0 ∧ Below w.heap.size w wr) (fun s _ => 1 - (intOf s).toNat)
  case atStart => exact ⟨0, rfl, by omega, Below.refl _ _⟩
  case round =>
    obtain ⟨i, rfl, hi, hb⟩ := hrel
    obtain rfl : i = 0 := by omega
    clear hi
    obtain ⟨x0, x1, x2, x3, x4, -, -, -, -⟩ := (HQ.out.below hb).facts
    have HB := Hd hb
    clear hb
    go_wp2_with (first | (go_at_call 227; with_reducible refine (H1.out _ _ (by simp)).mono ?_; rintro e w1 ⟨rfl, hb1⟩; have q4 := ((Quad.new wr (.bool b1) (.slice A n c) (.bool b2) (.slice B m e0)).alloc (.cells #[.bool b1, .slice A n c] 24)).below hb1; have B1 := belowTo ((HB.out.alloc HB.out.size _).alloc (by simp; have := HB.out.size; omega) _) hb1; obtain ⟨l4, y0, y1, y2, y3, -, -, -, -⟩ := q4.facts) | (go_at_call 227; with_reducible refine (H2.out _ _ rfl).mono ?_; rintro e w2 ⟨rfl, hb2⟩; have B2 := belowTo (B1.alloc B1.size _) hb2))
    go_ret
    exact ⟨rfl, B2⟩

theorem ratio_Long_c (b1 b2 : Bool) (A B : Option Addr) (n c m e0 g : Nat) (hn : n ≤ 9223372036854775807) (hm : m ≤ 9223372036854775807) (hl : n ≤ 2048) (hl2 : m ≤ 2048) (w : World) (q : Quad w g (.bool b1) (.slice A n c) (.bool b2) (.slice B m e0)) :
    Calls Tryz.prog 205 #[.slice (some ⟨g, 0, none⟩) 1 1] w fun e w' => e = .returned (.bool false) ∧ Below w.heap.size w w' := by
  have C1 := fun V g' hg => flong_one b1 A n c hn V g' hg
  rw [decide_eq_false (show ¬ 2048 < n from by omega)] at C1
  have C2 := fun V g' hg => flong_one b2 B m e0 hm V g' hg
  rw [decide_eq_false (show ¬ 2048 < m from by omega)] at C2
  have H2 := Hd C2
  clear C2 hl2
  have H1 := Hd C1
  have HQ := Hd q
  clear C1 hl q hn hm
  go_enter Tryz.func205, Tryz.ntmps205
  go_wp2_with fail
  go_loopw [7] (fun s wr => ∃ i : Nat, s = .int .i64 i ∧ i ≤ 1 ∧ Below w.heap.size w wr) (fun s _ => 1 - (intOf s).toNat)
  case atStart => exact ⟨0, rfl, by omega, Below.refl _ _⟩
  case round =>
    obtain ⟨i, rfl, hi, hb⟩ := hrel
    by_cases hlt : i < 1
    · obtain rfl : i = 0 := by omega
      clear hi hlt
      obtain ⟨x0, x1, x2, x3, x4, -, -, -, -⟩ := (HQ.out.below hb).facts
      have HB := Hd hb
      clear hb
      go_wp2_with (first | (go_at_call 227; with_reducible refine (H1.out _ _ (by simp)).mono ?_; rintro e w1 ⟨rfl, hb1⟩; have q4 := ((Quad.new wr (.bool b1) (.slice A n c) (.bool b2) (.slice B m e0)).alloc (.cells #[.bool b1, .slice A n c] 24)).below hb1; have B1 := belowTo ((HB.out.alloc HB.out.size _).alloc (by simp; have := HB.out.size; omega) _) hb1; obtain ⟨l4, y0, y1, y2, y3, -, -, -, -⟩ := q4.facts) | (go_at_call 227; with_reducible refine (H2.out _ _ rfl).mono ?_; rintro e w2 ⟨rfl, hb2⟩; have B2 := belowTo (B1.alloc B1.size _) hb2))
      go_roundw
      case rel => exact ⟨1, by go_num, Nat.le_refl _, B2⟩
      case measure => simp [intOf]
    · obtain rfl : i = 1 := by omega
      have HB := Hd hb
      clear hb hi hlt
      go_wp2_with fail
      go_ret
      exact ⟨rfl, HB.out⟩

theorem ratio_Long_any (b1 b2 : Bool) (A B : Option Addr) (n c m e0 g : Nat) (hn : n ≤ 9223372036854775807) (hm : m ≤ 9223372036854775807) (w : World) (q : Quad w g (.bool b1) (.slice A n c) (.bool b2) (.slice B m e0)) :
    Calls Tryz.prog 205 #[.slice (some ⟨g, 0, none⟩) 1 1] w fun e w' => e = .returned (.bool (decide (2048 < n) || decide (2048 < m))) ∧ Below w.heap.size w w' := by
  by_cases h1 : 2048 < n
  · have := ratio_Long_a b1 b2 A B n c m e0 g hn h1 w q
    simpa [h1] using this
  · by_cases h2 : 2048 < m
    · have := ratio_Long_b b1 b2 A B n c m e0 g hn hm (by omega) h2 w q
      simpa [h1, h2] using this
    · have := ratio_Long_c b1 b2 A B n c m e0 g hn hm (by omega) (by omega) w q
      simpa [h1, h2] using this

theorem ratio_Answer_false (b1 b2 : Bool) (A B : Option Addr) (n c m e0 g : Nat) (hn : n ≤ 9223372036854775807) (hm : m ≤ 9223372036854775807) (hb : (decide (2048 < n) || decide (2048 < m)) = false) (w : World) (q : Quad w g (.bool b1) (.slice A n c) (.bool b2) (.slice B m e0)) :
    Calls Tryz.prog 171 #[.slice (some ⟨g, 0, none⟩) 1 1] w fun e w' => e = .returned (.int .i64 0) ∧ Below w.heap.size w w' := by
  have C := ratio_Long_any b1 b2 A B n c m e0 g hn hm w q
  rw [hb] at C
  have H := Hd C
  clear C hb q
  go_enter Tryz.func171, Tryz.ntmps171
  go_wp2_with (go_at_call 205; with_reducible refine H.out.mono ?_; rintro e w1 ⟨rfl, hb⟩)
  go_ret
  exact ⟨rfl, hb⟩
/- answered of package frac. -/

theorem FracOwn.nought (w : World) (base : Nat) : FracOwn w base (.agg #[.bool false, .slice none 0 0, .bool false, .slice none 0 0]) 0 0 :=
  ⟨none, 0, none, 0, rfl, IntOwn.nought _ _, IntOwn.nought _ _, fun g hg => by cases hg⟩
theorem FracOwn.quad {w : World} {base g : Nat} {v a b c d : Value} {n m : Int} (h : FracOwn w base v n m) (q : Quad w g a b c d) (x y z u : Value) : FracOwn ((((w.setCell ⟨g, 0, none⟩ x).setCell ⟨g, 1, none⟩ y).setCell ⟨g, 2, none⟩ z).setCell ⟨g, 3, none⟩ u) base v n m := by
  obtain ⟨A, k, B, e, h1, h2, h3, h4⟩ := h.form
  have one : ∀ {v : Value} {x' : Int}, IntOwn w base v x' → IntOwn ((((w.setCell ⟨g, 0, none⟩ x).setCell ⟨g, 1, none⟩ y).setCell ⟨g, 2, none⟩ z).setCell ⟨g, 3, none⟩ u) base v x' := fun {v x'} hi => by
    obtain ⟨A', c', a1, a2, a3, a4⟩ := hi.form
    have hne := own_blk_ne a4 q.blk (by decide)
    refine ⟨A', c', a1, a2, a3, a4.1, ?_⟩
    rcases a4.2 with p | ⟨g', cap, cur, p1, p2, p3, p4⟩
    · exact .inl p
    · refine .inr ⟨g', cap, cur, p1, p2, ?_, p4⟩
      have hg : g' ≠ g := fun e => by
        rw [p1] at hne
        exact hne (by simp [Value.ownBlock, e])
      rw [Below.heap_setCell _ ⟨g, 3, none⟩ u g' hg, Below.heap_setCell _ ⟨g, 2, none⟩ z g' hg, Below.heap_setCell _ ⟨g, 1, none⟩ y g' hg, Below.heap_setCell _ ⟨g, 0, none⟩ x g' hg]
      exact p3
  exact ⟨A, k, B, e, h1, one h2, one h3, h4⟩
theorem FracOwn.base {w : World} {b b' : Nat} {v : Value} {n d : Int} (h : FracOwn w b v n d) (hb : b' ≤ b) : FracOwn w b' v n d := by
  obtain ⟨A, k, B, e, h1, h2, h3, h4⟩ := h.form
  exact ⟨A, k, B, e, h1, h2.base hb, h3.base hb, h4⟩
theorem frac_answered_fits (n d : Int) (A B : Option Addr) (c e0 : Nat) (w : World) (h : Raw w A c (natL n.natAbs)) (g : Raw w B e0 (natL d.natAbs)) (hn : lz n ≤ 2048) (hd : lz d ≤ 2048) :
    Calls Tryz.prog 101 #[.agg #[.bool (decide (n < 0)), .slice A (natL n.natAbs).length c, .bool (decide (d < 0)), .slice B (natL d.natAbs).length e0]] w (RetFracOwn2 w.heap.size w n d 0) := by
  have px := (Quad.new w (.bool (decide (n < 0))) (.slice A (natL n.natAbs).length c) (.bool (decide (d < 0))) (.slice B (natL d.natAbs).length e0)).alloc (.cells #[.bool false, .slice none 0 0, .bool false, .slice none 0 0] 56)
  have pr := Quad.new (w.alloc (.cells #[.bool (decide (n < 0)), .slice A (natL n.natAbs).length c, .bool (decide (d < 0)), .slice B (natL d.natAbs).length e0] 56)) (.bool false) (.slice none 0 0) (.bool false) (.slice none 0 0)
  have b0 := ((Below.refl w.heap.size w).alloc (Nat.le_refl _) (.cells #[.bool (decide (n < 0)), .slice A (natL n.natAbs).length c, .bool (decide (d < 0)), .slice B (natL d.natAbs).length e0] 56)).alloc (by simp) (.cells #[.bool false, .slice none 0 0, .bool false, .slice none 0 0] 56)
  simp only [World.size_alloc] at pr
  have hn' : (natL n.natAbs).length ≤ 2048 := hn
  have hd' : (natL d.natAbs).length ≤ 2048 := hd
  have H1 := Hd (fun (V : World) (g' : Nat) (hg : V.heap.size = g') => ratio_Answer_false (decide (n < 0)) (decide (d < 0)) A B (natL n.natAbs).length c (natL d.natAbs).length e0 g' (by omega) (by omega) (by simp; omega) (V.alloc (.cells #[.bool (decide (n < 0)), .slice A (natL n.natAbs).length c, .bool (decide (d < 0)), .slice B (natL d.natAbs).length e0] 56)) (by subst hg; exact Quad.new _ _ _ _ _))
  have H2 := Hd (fun (V : World) (h : Raw V A c (natL n.natAbs)) (g : Raw V B e0 (natL d.natAbs)) => ratio_Copy n d A B c e0 V h g (by omega) (by omega))
  have h1 := h.below b0
  have g1 := g.below b0
  have PX := Hd px
  have PR := Hd pr
  have B0 := Hd b0
  have RX := Hd h1
  have RY := Hd g1
  clear px pr b0 h g h1 g1 hn hd hn' hd'
  go_enter Tryz.func101, Tryz.ntmps101
  go_wp2_with (
    (go_at_call 171; with_reducible refine (H1.out _ _ (by simp)).mono ?_; rintro e w1 ⟨rfl, hb⟩; have px := (PX.out.alloc _).below hb; have pr := (PR.out.alloc _).below hb; have B1 := belowTo (B0.out.alloc B0.out.size _) hb; have rx := (RX.out.alloc _).below hb; have ry := (RY.out.alloc _).below hb; have hl0 := B0.out.size; obtain ⟨l1, x0, x1, x2, x3, -, -, -, -⟩ := px.facts))
  refine (H2.out _ rx ry).mono ?_
  rintro e w2 ⟨v, rfl, hI, hb2⟩
  have pr2 := pr.below hb2
  have B2 := belowTo B1 hb2
  obtain ⟨A1, c1, A2, c2, rfl, -⟩ := hI.form
  obtain ⟨l2, y0, y1, y2, y3, f0, f1, f2, f3⟩ := pr2.facts
  go_wp2_with fail
  have hq := pr2.store (.bool (decide (n < 0))) (.slice A1 (natL n.natAbs).length c1) (.bool (decide (d < 0))) (.slice A2 (natL d.natAbs).length c2)
  obtain ⟨_, k0, k1, k2, k3, _⟩ := hq.facts
  have hsz := B1.size
  exact bodyPost_ret (by simp [results, Tryz.results101, go_sem, k0, k1, k2, k3]) rfl ⟨_, rfl, (hI.quad pr2 _ _ _ _).base hsz, below4 B2 (by omega) _ _ _ _⟩
/- Make of package frac. (Written by wip/frac/genfmake.py.) -/

theorem lowN_lz (n d : Int) : lz (lowN n d) ≤ lz n := by
  unfold lowN
  split
  · rw [show lz (-(n.tdiv (gcdZ n d))) = lz (n.tdiv (gcdZ n d)) by unfold lz; rw [Int.natAbs_neg]]; exact tdiv_lz _ _
  · exact tdiv_lz _ _
theorem lowD_lz (n d : Int) : lz (lowD n d) ≤ lz d := by
  unfold lowD
  split
  · rw [show lz (-(d.tdiv (gcdZ n d))) = lz (d.tdiv (gcdZ n d)) by unfold lz; rw [Int.natAbs_neg]]; exact tdiv_lz _ _
  · exact tdiv_lz _ _

theorem frac_Make_nought (n d : Int) (A B : Option Addr) (c e0 : Nat) (w : World) (h : Raw w A c (natL n.natAbs)) (g : Raw w B e0 (natL d.natAbs)) (hn : Fit n) (hd : Fit d) (hd0 : d = 0) :
    Calls Tryz.prog 164 #[.agg #[.bool (decide (n < 0)), .slice A (natL n.natAbs).length c], .agg #[.bool (decide (d < 0)), .slice B (natL d.natAbs).length e0]] w (RetFracOwn2 w.heap.size w 0 0 3) := by
  have C1 := fun (V : World) (h : Raw V A c (natL n.natAbs)) => exact_Check_any (decide (n < 0)) A c _ V h
  have C2 := fun (V : World) (h : Raw V B e0 (natL d.natAbs)) => exact_Check_any (decide (d < 0)) B e0 _ V h
  unfold errI at C1 C2
  rw [if_pos hn.ok] at C1
  rw [if_pos hd.ok] at C2
  have C3 := fun (V : World) (h : Raw V B e0 (natL d.natAbs)) => esign d 0 B e0 V h (by rw [hd0]; rfl)
  have H1 := Hd C1
  have H2 := Hd C2
  have H3 := Hd C3
  clear C1 C2 C3 hn hd hd0
  have px := ((Pair.new w 24 (.bool (decide (n < 0))) (.slice A (natL n.natAbs).length c)).alloc (.cells #[.bool (decide (d < 0)), .slice B (natL d.natAbs).length e0] 24)).alloc (.cells #[.bool false, .slice none 0 0, .bool false, .slice none 0 0] 56)
  have py := (Pair.new (w.alloc (.cells #[.bool (decide (n < 0)), .slice A (natL n.natAbs).length c] 24)) 24 (.bool (decide (d < 0))) (.slice B (natL d.natAbs).length e0)).alloc (.cells #[.bool false, .slice none 0 0, .bool false, .slice none 0 0] 56)
  have pr := Quad.new ((w.alloc (.cells #[.bool (decide (n < 0)), .slice A (natL n.natAbs).length c] 24)).alloc (.cells #[.bool (decide (d < 0)), .slice B (natL d.natAbs).length e0] 24)) (.bool false) (.slice none 0 0) (.bool false) (.slice none 0 0)
  have b0 := (((Below.refl w.heap.size w).alloc (Nat.le_refl _) (.cells #[.bool (decide (n < 0)), .slice A (natL n.natAbs).length c] 24)).alloc (by simp) (.cells #[.bool (decide (d < 0)), .slice B (natL d.natAbs).length e0] 24)).alloc (by simp; omega) (.cells #[.bool false, .slice none 0 0, .bool false, .slice none 0 0] 56)
  simp only [World.size_alloc] at py pr
  have h1 := h.below b0
  have g1 := g.below b0
  have PX := Hd px
  have PY := Hd py
  have PR := Hd pr
  have B0 := Hd b0
  have RX := Hd h1
  have RY := Hd g1
  clear px py pr b0 h g h1 g1
  go_enter Tryz.func164, Tryz.ntmps164
  go_wp2_with fail
  obtain ⟨W, E⟩ : ∃ W, W = ((w.alloc (.cells #[.bool (decide (n < 0)), .slice A (natL n.natAbs).length c] 24)).alloc (.cells #[.bool (decide (d < 0)), .slice B (natL d.natAbs).length e0] 24)).alloc (.cells #[.bool false, .slice none 0 0, .bool false, .slice none 0 0] 56) := ⟨_, rfl⟩
  rw [← E] at PX PY PR B0 RX RY ⊢
  clear E
  have T0 := Below.refl W.heap.size W
  obtain ⟨l0, x0, x1, -, -⟩ := (PX.out.below T0).facts
  obtain ⟨m0, y0, y1, -, -⟩ := (PY.out.below T0).facts
  go_wp2_with fail
  refine (H1.out _ (RX.out.below T0)).mono ?_
  rintro e w1 ⟨rfl, h⟩
  have T1 := belowTo T0 h
  clear h x0 x1 y0 y1 l0 m0
  obtain ⟨l1, x0, x1, -, -⟩ := (PX.out.below T1).facts
  obtain ⟨m1, y0, y1, -, -⟩ := (PY.out.below T1).facts
  go_wp2_with fail
  refine (H2.out _ (RY.out.below T1)).mono ?_
  rintro e w2 ⟨rfl, h⟩
  have T2 := belowTo T1 h
  clear h x0 x1 y0 y1 l1 m1
  obtain ⟨l2, x0, x1, -, -⟩ := (PX.out.below T2).facts
  obtain ⟨m2, y0, y1, -, -⟩ := (PY.out.below T2).facts
  go_wp2_with fail
  refine (H3.out _ (RY.out.below T2)).mono ?_
  rintro e w3 ⟨rfl, h⟩
  have T3 := belowTo T2 h
  clear h x0 x1 y0 y1 l2 m2
  have pr2 := PR.out.below T3
  have BB := belowTo B0.out T3
  have BX := B0.out.size
  obtain ⟨l5, z0, z1, z2, z3, f0, f1, f2, f3⟩ := pr2.facts
  go_wp2_with fail
  have hq := pr2.store (.bool false) (.slice none 0 0) (.bool false) (.slice none 0 0)
  obtain ⟨_, k0, k1, k2, k3, _⟩ := hq.facts
  exact bodyPost_ret (by simp [results, Tryz.results164, go_sem, k0, k1, k2, k3]) rfl ⟨_, rfl, FracOwn.nought _ _, below4 BB (by omega) _ _ _ _⟩

def mkOk (n1 n2 : Bool) (xs ys : List Nat) : Bool := okI n1 xs && okI n2 ys
def mkE (n1 n2 : Bool) (xs ys : List Nat) : Int := if mkOk n1 n2 xs ys then (if ival n2 ys = 0 then 3 else 0) else 1
def mkN (n1 n2 : Bool) (xs ys : List Nat) : Int := if mkOk n1 n2 xs ys then (if ival n2 ys = 0 then 0 else lowN (ival n1 xs) (ival n2 ys)) else 0
def mkD (n1 n2 : Bool) (xs ys : List Nat) : Int := if mkOk n1 n2 xs ys then (if ival n2 ys = 0 then 0 else lowD (ival n1 xs) (ival n2 ys)) else 0
/- Int64 of the references. -/

theorem ok64' (n : Int) (h1 : -9223372036854775808 ≤ n) (h2 : n ≤ 9223372036854775807) : okI (decide (n < 0)) (natL n.natAbs) = true := by
  refine okI_true.2 ⟨?_, canon_natL _, fun h => ?_⟩
  · have := (natL_length_le (n := n.natAbs) (k := 2)).2 (by omega); omega
  · have := natL_eq_nil.1 h
    simp; omega
end Go.Proofs.YtkncbenhfcpgkaaGreatDoor
