/- Several texts in one: FLong, FAnswered, CmpW, OfW, WrapI. -/
import Derived.Test.YthlehkjcfhnplaaGreatDoorGw15
set_option maxRecDepth 100000
set_option maxHeartbeats 8000000
/- Long and Answer of package ratio at one fraction. (Written by wip/frac/genflong.py.) -/
namespace Go.Proofs.YthlehkjcfhnplaaGreatDoor
open Go.RowKit

theorem XL (b : Bool) (A : Option Addr) (n c : Nat) (hn : n <= 9223372036854775807) (V : World) (g : Nat) (hg : V.heap.size = g) :
   Calls Tryz.prog 250 #[.slice (some ⟨g, 0, none⟩) 1 1] (V.alloc (.cells #[.bool b, .slice A n c] 24)) fun e w' => e = .returned (.bool (decide (2048 < n))) /\ Below (V.alloc (.cells #[.bool b, .slice A n c] 24)).heap.size (V.alloc (.cells #[.bool b, .slice A n c] 24)) w' := by
 have := exact_Long (some ⟨g, 0, none⟩) 1 [(b, A, n, c)] (by simp) (by simp; omega) (V.alloc (.cells #[.bool b, .slice A n c] 24)) (by subst hg; exact (ZF.new1 V 24 2 [.bool b, .slice A n c] rfl).more (by simp))
 simpa using this

theorem ratio_Long_a (b1 b2 : Bool) (A B : Option Addr) (n c m e0 g : Nat) (hn : n <= 9223372036854775807) (hl : 2048 < n) (w : World) (q : Zo w g (.bool b1) (.slice A n c) (.bool b2) (.slice B m e0)) :
   Calls Tryz.prog 203 #[.slice (some ⟨g, 0, none⟩) 1 1] w fun e w' => e = .returned (.bool true) /\ Below w.heap.size w w' := by
 have C1 := fun V g' hg => XL b1 A n c hn V g' hg
 rw [decide_eq_true (show 2048 < n from hl)] at C1
 have H1 := Hd C1
 have HQ := Hd q
 clear C1 hl q hn
 go_enter Tryz.func203, Tryz.ntmps203
 go_wp2_with fail
 go_loopw [7] (fun s wr => ∃ i : Nat, s = .int .i64 i /\ i <= 0 /\ Below w.heap.size w wr) (fun s _ => 1 - (intOf s).toNat)
 case atStart => exact ⟨0, rfl, by omega, Below.refl _ _⟩
 case round =>
   obtain ⟨i, rfl, hi, hb⟩ := hrel
   obtain rfl : i = 0 := by omega
   clear hi
   obtain ⟨x0, x1, x2, x3, x4, -, -, -, -⟩ := (HQ.out.below hb).facts
   have HB := Hd hb
   clear hb
   go_wp2_with (first | (go_at_call 250; with_reducible refine (H1.out _ _ (by simp)).mono ?_; rintro e w1 ⟨rfl, hb1⟩; have q4 := ((Zo.new wr (.bool b1) (.slice A n c) (.bool b2) (.slice B m e0)).alloc (.cells #[.bool b1, .slice A n c] 24)).below hb1; have B1 := Zb ((HB.out.alloc HB.out.size _).alloc (by simp; have := HB.out.size; omega) _) hb1; obtain ⟨l4, y0, y1, y2, y3, -, -, -, -⟩ := q4.facts) | (go_at_call 250; with_reducible refine (H2.out _ _ rfl).mono ?_; rintro e w2 ⟨rfl, hb2⟩; have B2 := Zb (B1.alloc B1.size _) hb2))
   go_ret
   exact ⟨rfl, B1⟩

theorem ratio_Long_b (b1 b2 : Bool) (A B : Option Addr) (n c m e0 g : Nat) (hn : n <= 9223372036854775807) (hm : m <= 9223372036854775807) (hl : n <= 2048) (hl2 : 2048 < m) (w : World) (q : Zo w g (.bool b1) (.slice A n c) (.bool b2) (.slice B m e0)) :
   Calls Tryz.prog 203 #[.slice (some ⟨g, 0, none⟩) 1 1] w fun e w' => e = .returned (.bool true) /\ Below w.heap.size w w' := by
 have C1 := fun V g' hg => XL b1 A n c hn V g' hg
 rw [decide_eq_false (show ¬ 2048 < n from by omega)] at C1
 have C2 := fun V g' hg => XL b2 B m e0 hm V g' hg
 rw [decide_eq_true (show 2048 < m from hl2)] at C2
 have H2 := Hd C2
 clear C2 hl2
 have H1 := Hd C1
 have HQ := Hd q
 clear C1 hl q hn hm
 go_enter Tryz.func203, Tryz.ntmps203
 go_wp2_with fail
 go_loopw [7] (fun s wr => ∃ i : Nat, s = .int .i64 i /\ i <= 0 /\ Below w.heap.size w wr) (fun s _ => 1 - (intOf s).toNat)
 case atStart => exact ⟨0, rfl, by omega, Below.refl _ _⟩
 case round =>
   obtain ⟨i, rfl, hi, hb⟩ := hrel
   obtain rfl : i = 0 := by omega
   clear hi
   obtain ⟨x0, x1, x2, x3, x4, -, -, -, -⟩ := (HQ.out.below hb).facts
   have HB := Hd hb
   clear hb
   go_wp2_with (first | (go_at_call 250; with_reducible refine (H1.out _ _ (by simp)).mono ?_; rintro e w1 ⟨rfl, hb1⟩; have q4 := ((Zo.new wr (.bool b1) (.slice A n c) (.bool b2) (.slice B m e0)).alloc (.cells #[.bool b1, .slice A n c] 24)).below hb1; have B1 := Zb ((HB.out.alloc HB.out.size _).alloc (by simp; have := HB.out.size; omega) _) hb1; obtain ⟨l4, y0, y1, y2, y3, -, -, -, -⟩ := q4.facts) | (go_at_call 250; with_reducible refine (H2.out _ _ rfl).mono ?_; rintro e w2 ⟨rfl, hb2⟩; have B2 := Zb (B1.alloc B1.size _) hb2))
   go_ret
   exact ⟨rfl, B2⟩

theorem ratio_Long_c (b1 b2 : Bool) (A B : Option Addr) (n c m e0 g : Nat) (hn : n <= 9223372036854775807) (hm : m <= 9223372036854775807) (hl : n <= 2048) (hl2 : m <= 2048) (w : World) (q : Zo w g (.bool b1) (.slice A n c) (.bool b2) (.slice B m e0)) :
   Calls Tryz.prog 203 #[.slice (some ⟨g, 0, none⟩) 1 1] w fun e w' => e = .returned (.bool false) /\ Below w.heap.size w w' := by
 have C1 := fun V g' hg => XL b1 A n c hn V g' hg
 rw [decide_eq_false (show ¬ 2048 < n from by omega)] at C1
 have C2 := fun V g' hg => XL b2 B m e0 hm V g' hg
 rw [decide_eq_false (show ¬ 2048 < m from by omega)] at C2
 have H2 := Hd C2
 clear C2 hl2
 have H1 := Hd C1
 have HQ := Hd q
 clear C1 hl q hn hm
 go_enter Tryz.func203, Tryz.ntmps203
 go_wp2_with fail
 go_loopw [7] (fun s wr => ∃ i : Nat, s = .int .i64 i /\ i <= 1 /\ Below w.heap.size w wr) (fun s _ => 1 - (intOf s).toNat)
 case atStart => exact ⟨0, rfl, by omega, Below.refl _ _⟩
 case round =>
   obtain ⟨i, rfl, hi, hb⟩ := hrel
   by_cases hlt : i < 1
   . obtain rfl : i = 0 := by omega
     clear hi hlt
     obtain ⟨x0, x1, x2, x3, x4, -, -, -, -⟩ := (HQ.out.below hb).facts
     have HB := Hd hb
     clear hb
     go_wp2_with (first | (go_at_call 250; with_reducible refine (H1.out _ _ (by simp)).mono ?_; rintro e w1 ⟨rfl, hb1⟩; have q4 := ((Zo.new wr (.bool b1) (.slice A n c) (.bool b2) (.slice B m e0)).alloc (.cells #[.bool b1, .slice A n c] 24)).below hb1; have B1 := Zb ((HB.out.alloc HB.out.size _).alloc (by simp; have := HB.out.size; omega) _) hb1; obtain ⟨l4, y0, y1, y2, y3, -, -, -, -⟩ := q4.facts) | (go_at_call 250; with_reducible refine (H2.out _ _ rfl).mono ?_; rintro e w2 ⟨rfl, hb2⟩; have B2 := Zb (B1.alloc B1.size _) hb2))
     go_roundw
     case rel => exact ⟨1, by go_num, Nat.le_refl _, B2⟩
     case measure => simp [intOf]
   . obtain rfl : i = 1 := by omega
     have HB := Hd hb
     clear hb hi hlt
     go_wp2_with fail
     go_ret
     exact ⟨rfl, HB.out⟩

theorem ratio_Long_any (b1 b2 : Bool) (A B : Option Addr) (n c m e0 g : Nat) (hn : n <= 9223372036854775807) (hm : m <= 9223372036854775807) (w : World) (q : Zo w g (.bool b1) (.slice A n c) (.bool b2) (.slice B m e0)) :
   Calls Tryz.prog 203 #[.slice (some ⟨g, 0, none⟩) 1 1] w fun e w' => e = .returned (.bool (decide (2048 < n) || decide (2048 < m))) /\ Below w.heap.size w w' := by
 by_cases h1 : 2048 < n
 . have := ratio_Long_a b1 b2 A B n c m e0 g hn h1 w q
   simpa [h1] using this
 . by_cases h2 : 2048 < m
   . have := ratio_Long_b b1 b2 A B n c m e0 g hn hm (by omega) h2 w q
     simpa [h1, h2] using this
   . have := ratio_Long_c b1 b2 A B n c m e0 g hn hm (by omega) (by omega) w q
     simpa [h1, h2] using this

theorem ratio_Answer_true (b1 b2 : Bool) (A B : Option Addr) (n c m e0 g : Nat) (hn : n <= 9223372036854775807) (hm : m <= 9223372036854775807) (hb : (decide (2048 < n) || decide (2048 < m)) = true) (w : World) (q : Zo w g (.bool b1) (.slice A n c) (.bool b2) (.slice B m e0)) :
   Calls Tryz.prog 123 #[.slice (some ⟨g, 0, none⟩) 1 1] w fun e w' => e = .returned (.int .i64 4) /\ Below w.heap.size w w' := by
 have C := ratio_Long_any b1 b2 A B n c m e0 g hn hm w q
 rw [hb] at C
 have H := Hd C
 clear C hb q
 go_enter Tryz.func123, Tryz.ntmps123
 go_wp2_with (go_at_call 203; with_reducible refine H.out.mono ?_; rintro e w1 ⟨rfl, hb⟩)
 go_ret
 exact ⟨rfl, hb⟩

theorem ratio_Answer_false (b1 b2 : Bool) (A B : Option Addr) (n c m e0 g : Nat) (hn : n <= 9223372036854775807) (hm : m <= 9223372036854775807) (hb : (decide (2048 < n) || decide (2048 < m)) = false) (w : World) (q : Zo w g (.bool b1) (.slice A n c) (.bool b2) (.slice B m e0)) :
   Calls Tryz.prog 123 #[.slice (some ⟨g, 0, none⟩) 1 1] w fun e w' => e = .returned (.int .i64 0) /\ Below w.heap.size w w' := by
 have C := ratio_Long_any b1 b2 A B n c m e0 g hn hm w q
 rw [hb] at C
 have H := Hd C
 clear C hb q
 go_enter Tryz.func123, Tryz.ntmps123
 go_wp2_with (go_at_call 203; with_reducible refine H.out.mono ?_; rintro e w1 ⟨rfl, hb⟩)
 go_ret
 exact ⟨rfl, hb⟩
/- answered of package frac. -/

theorem Zj.nought (w : World) (base : Nat) : Zj w base (.agg #[.bool false, .slice none 0 0, .bool false, .slice none 0 0]) 0 0 :=
 ⟨none, 0, none, 0, rfl, Ze.nought _ _, Ze.nought _ _, fun g hg => by cases hg⟩
theorem Zj.quad {w : World} {base g : Nat} {v a b c d : Value} {n m : Int} (h : Zj w base v n m) (q : Zo w g a b c d) (x y z u : Value) : Zj ((((w.setCell ⟨g, 0, none⟩ x).setCell ⟨g, 1, none⟩ y).setCell ⟨g, 2, none⟩ z).setCell ⟨g, 3, none⟩ u) base v n m := by
 obtain ⟨A, k, B, e, h1, h2, h3, h4⟩ := h.form
 have one : ∀ {v : Value} {x' : Int}, Ze w base v x' -> Ze ((((w.setCell ⟨g, 0, none⟩ x).setCell ⟨g, 1, none⟩ y).setCell ⟨g, 2, none⟩ z).setCell ⟨g, 3, none⟩ u) base v x' := fun {v x'} hi => by
   obtain ⟨A', c', a1, a2, a3, a4⟩ := hi.form
   have hne := YS a4 q.blk (by decide)
   refine ⟨A', c', a1, a2, a3, a4.1, ?_⟩
   rcases a4.2 with p | ⟨g', cap, cur, p1, p2, p3, p4⟩
   . exact .inl p
   . refine .inr ⟨g', cap, cur, p1, p2, ?_, p4⟩
     have hg : g' ≠ g := fun e => by
       rw [p1] at hne
       exact hne (by simp [Value.ownBlock, e])
     rw [Below.heap_setCell _ ⟨g, 3, none⟩ u g' hg, Below.heap_setCell _ ⟨g, 2, none⟩ z g' hg, Below.heap_setCell _ ⟨g, 1, none⟩ y g' hg, Below.heap_setCell _ ⟨g, 0, none⟩ x g' hg]
     exact p3
 exact ⟨A, k, B, e, h1, one h2, one h3, h4⟩
theorem Zj.base {w : World} {b b' : Nat} {v : Value} {n d : Int} (h : Zj w b v n d) (hb : b' <= b) : Zj w b' v n d := by
 obtain ⟨A, k, B, e, h1, h2, h3, h4⟩ := h.form
 exact ⟨A, k, B, e, h1, h2.base hb, h3.base hb, h4⟩
/- Cmp of package whole and of the references. (Written by wip/exact/genfine.py, cut off by hand.) -/

/- Of of package whole. -/

/- Sign, Bits of package whole and of the references: 0 of what may not be. (Written by wip/exact/genwrap.py.) -/

end Go.Proofs.YthlehkjcfhnplaaGreatDoor
