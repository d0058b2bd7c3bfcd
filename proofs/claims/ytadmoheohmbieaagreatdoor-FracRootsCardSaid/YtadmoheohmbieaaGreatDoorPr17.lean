/- Several texts in one: BookFrac, RefCommon, DivOps, ZR. -/
import Derived.Test.YtadmoheohmbieaaGreatDoorPr09
import Derived.Test.YtadmoheohmbieaaGreatDoorPr16
import Derived.Test.YtadmoheohmbieaaGreatDoorPr14
import Derived.Deep.LoopGhost
import Derived.Test.YtadmoheohmbieaaGreatDoorPr13
import Derived.Test.YtadmoheohmbieaaGreatDoorPr08
import Derived.Test.YtadmoheohmbieaaGreatDoorPr04
import Derived.Test.YtadmoheohmbieaaGreatDoorPr05
import Derived.Test.YtadmoheohmbieaaGreatDoorPr15
/- Frac of a Book: the two numbers' limbs are put into it. -/
namespace Go.Proofs.YtadmoheohmbieaaGreatDoor
open Go.RowKit

set_option maxRecDepth 100000 in
set_option maxHeartbeats 1000000 in
theorem book_Frac (b m : Nat) (l : Nat → Value) (lims : Value) (n1 n2 : Bool) (A B : Option Addr) (an ac bn bc : Nat) (hm : m + 1 ≤ 1000) (w : World) (h : Keep w b m l lims) :
    Calls Tryz.prog 22 #[.pointer (some ⟨b, 0, none⟩), .agg #[.bool n1, .slice A an ac, .bool n2, .slice B bn bc]] w fun e w' => e = .returned (.tuple #[]) ∧ ∃ lims', Keep w' b (m + 2) (updV (updV l m (.slice A an ac)) (m + 1) (.slice B bn bc)) lims' ∧ Below b w w' := by
  have hlt := h.book.lt
  have px := Quad.new w (.bool n1) (.slice A an ac) (.bool n2) (.slice B bn bc)
  have hb := Lib.hid (((Below.refl w.heap.size w).alloc (Nat.le_refl _) (.cells #[.bool n1, .slice A an ac, .bool n2, .slice B bn bc] 30)).mono (Nat.le_of_lt hlt))
  have C1 := Lib.hid (book_Int_far w.heap.size 30 _ (by decide) b m (by omega) l lims n1 A an ac (by omega) _ (h.below ((Below.refl _ _).alloc (Nat.le_refl _) (.cells #[.bool n1, .slice A an ac, .bool n2, .slice B bn bc] 30))) px.blk)
  have PX := Lib.hid px
  clear h px
  obtain ⟨-, x0, x1, x2, x3, -, -, -, -⟩ := PX.out.facts
  go_enter Tryz.func22, Tryz.ntmps22
  go_wp2_with fail
  refine C1.out.mono ?_
  rintro e w1 ⟨rfl, lims1, hk, hb1, hx⟩
  have C2 := Lib.hid (book_Int b (m + 1) (updV l m (.slice A an ac)) lims1 n2 B bn bc hm w1 hk)
  obtain ⟨-, y0, y1, y2, y3, -, -, -, -⟩ := (Quad.mk hx).facts
  have HB := Lib.hid (hb.out.trans hb1)
  clear C1 hb hk hb1 hx x0 x1 x2 x3
  go_wp2_with fail
  refine C2.out.mono ?_
  rintro e w2 ⟨rfl, lims2, hk2, hb2⟩
  have HF := Lib.hid (⟨lims2, hk2, HB.out.trans hb2⟩ : ∃ lims', Keep w2 b (m + 2) (updV (updV l m (.slice A an ac)) (m + 1) (.slice B bn bc)) lims' ∧ Below b w w2)
  clear C2 HB hk2 hb2 y0 y1 y2 y3
  go_wp2_with fail
  exact bodyPost_end (v := .tuple #[]) (by simp [results, Tryz.results22, go_sem]) rfl ⟨rfl, HF.out⟩
end Go.Proofs.YtadmoheohmbieaaGreatDoor

/- Common of the references: the greatest number that goes into both, by halving. -/
namespace Go.Proofs.YtadmoheohmbieaaGreatDoor
open Go.RowKit

theorem gcd_even {a b : Nat} (ha : a % 2 = 0) (hb : b % 2 = 0) : Nat.gcd a b = 2 * Nat.gcd (a / 2) (b / 2) := by
  have e1 : a = 2 * (a / 2) := by omega
  have e2 : b = 2 * (b / 2) := by omega
  conv => lhs; rw [e1, e2]
  exact Nat.gcd_mul_left 2 _ _
theorem gcd_half_left {a b : Nat} (ha : a % 2 = 0) (hb : b % 2 = 1) : Nat.gcd (a / 2) b = Nat.gcd a b := by
  have e1 : a = 2 * (a / 2) := by omega
  conv => rhs; rw [e1]
  have hc : Nat.Coprime 2 b := by
    rw [Nat.coprime_iff_gcd_eq_one, Nat.gcd_rec, hb]; rfl
  exact (Nat.Coprime.gcd_mul_left_cancel (a / 2) hc).symm
theorem gcd_half_right {a b : Nat} (ha : a % 2 = 1) (hb : b % 2 = 0) : Nat.gcd a (b / 2) = Nat.gcd a b := by
  rw [Nat.gcd_comm, gcd_half_left hb ha, Nat.gcd_comm]
theorem gcd_less {a b : Nat} (h : b ≤ a) : Nat.gcd (a - b) b = Nat.gcd a b := Nat.gcd_sub_self_left h

/-- While the twos are taken out of both. -/
structure Cm1 (w wr : World) (X Y : Nat) (A1 : Option Addr) (c1 a : Nat) (A2 : Option Addr) (c2 b t : Nat) : Prop where
  ra : Raw wr A1 c1 (natL a)
  rb : Raw wr A2 c2 (natL b)
  low : Below w.heap.size w wr
  pa : 0 < a
  pb : 0 < b
  gcd : Nat.gcd a b * 2 ^ t = Nat.gcd X Y
  la : a * 2 ^ t ≤ X
  lb : b ≤ Y
theorem Cm1.next {w wr wr' : World} {X Y : Nat} {A1 A2 A1' A2' : Option Addr} {c1 a c2 b t c1' c2' : Nat} (h : Cm1 w wr X Y A1 c1 a A2 c2 b t) (ha : a % 2 = 0) (hb : b % 2 = 0) (r1 : Raw wr' A1' c1' (natL (a / 2))) (r2 : Raw wr' A2' c2' (natL (b / 2))) (hl : Below w.heap.size w wr') : Cm1 w wr' X Y A1' c1' (a / 2) A2' c2' (b / 2) (t + 1) := by
  have h1 := h.pa
  have h2 := h.pb
  refine ⟨r1, r2, hl, by omega, by omega, ?_, ?_, by have := h.lb; omega⟩
  · rw [← h.gcd, gcd_even ha hb, Nat.pow_succ]
    generalize 2 ^ t = p
    rw [Nat.mul_comm p 2, ← Nat.mul_assoc, Nat.mul_comm _ 2]
  · have := h.la
    rw [Nat.pow_succ]
    have e : a / 2 * (2 ^ t * 2) = (a / 2 * 2) * 2 ^ t := by rw [Nat.mul_comm (2 ^ t), Nat.mul_assoc]
    rw [e, show a / 2 * 2 = a by omega]
    exact this
theorem twos_le {X a t L : Nat} (ha : 0 < a) (h : a * 2 ^ t ≤ X) (hX : (natL X).length ≤ L) : t ≤ 32 * L := by
  have h1 : X < 2 ^ (32 * L) := by
    have := natL_length_le.1 hX
    rw [show 4294967296 = 2 ^ 32 by decide, ← Nat.pow_mul] at this
    exact this
  have h2 : 2 ^ t ≤ X := Nat.le_trans (Nat.le_mul_of_pos_left _ ha) h
  have h3 : 2 ^ t < 2 ^ (32 * L) := by omega
  exact Nat.le_of_lt ((Nat.pow_lt_pow_iff_right (by omega)).1 h3)

theorem odd_of {a b : Nat} (h : ¬ (a % 2 = 0 ∧ b % 2 = 0)) : a % 2 = 1 ∨ b % 2 = 1 := by omega
/-- While the lesser is taken from the greater. -/
structure Cm2 (w wr : World) (g : Nat) (A1 : Option Addr) (c1 a : Nat) (A2 : Option Addr) (c2 b L : Nat) : Prop where
  ra : Raw wr A1 c1 (natL a)
  rb : Raw wr A2 c2 (natL b)
  low : Below w.heap.size w wr
  pb : 0 < b
  odd : a % 2 = 1 ∨ b % 2 = 1
  gcd : Nat.gcd a b = g
  la : (natL a).length ≤ L
  lb : (natL b).length ≤ L
theorem Cm2.halfa {w wr wr' : World} {g : Nat} {A1 A2 A1' : Option Addr} {c1 a c2 b L c1' : Nat} (h : Cm2 w wr g A1 c1 a A2 c2 b L) (ha : a % 2 = 0) (r1 : Raw wr' A1' c1' (natL (a / 2))) (hb : Below wr.heap.size wr wr') : Cm2 w wr' g A1' c1' (a / 2) A2 c2 b L := by
  have ho : b % 2 = 1 := by have := h.odd; omega
  exact ⟨r1, h.rb.below hb, belowTo h.low hb, h.pb, .inr ho, by rw [gcd_half_left ha ho]; exact h.gcd, Nat.le_trans (natL_mono (Nat.div_le_self _ _)) h.la, h.lb⟩
theorem Cm2.halfb {w wr wr' : World} {g : Nat} {A1 A2 A2' : Option Addr} {c1 a c2 b L c2' : Nat} (h : Cm2 w wr g A1 c1 a A2 c2 b L) (hb0 : b % 2 = 0) (r2 : Raw wr' A2' c2' (natL (b / 2))) (hb : Below wr.heap.size wr wr') : Cm2 w wr' g A1 c1 a A2' c2' (b / 2) L := by
  have ho : a % 2 = 1 := by have := h.odd; omega
  have := h.pb
  exact ⟨h.ra.below hb, r2, belowTo h.low hb, by omega, .inl ho, by rw [gcd_half_right ho hb0]; exact h.gcd, h.la, Nat.le_trans (natL_mono (Nat.div_le_self _ _)) h.lb⟩
theorem natL_pos_len {a : Nat} (h : 0 < a) : 0 < (natL a).length := by
  rcases Nat.eq_zero_or_pos (natL a).length with h0 | h0
  · have := natL_eq_nil.1 (List.eq_nil_of_length_eq_zero h0)
    omega
  · exact h0
theorem ref_half_n (A : Option Addr) (c a : Nat) (hl : (natL a).length ≤ 1073741824) (w : World) (h : Raw w A c (natL a)) :
    Calls Tryz.prog 210 #[.slice A (natL a).length c] w (RetN w.heap.size w (a / 2)) := by
  have := ref_half A c (natL a) hl w h
  rwa [val_natL] at this
theorem ref_even_n (A : Option Addr) (c a : Nat) (h0 : 0 < a) (w : World) (h : Raw w A c (natL a)) (b : Bool) (hb : b = (a % 2 == 0)) :
    Calls Tryz.prog 233 #[.slice A (natL a).length c] w fun e w' => e = .returned (.bool b) ∧ w = w' :=
  ref_even A c (natL a) (natL_pos_len h0) w h b (by rw [val_natL]; exact hb)

set_option maxRecDepth 100000 in
set_option maxHeartbeats 4000000 in
theorem ref_Common_more (n1 n2 : Bool) (A B : Option Addr) (c d : Nat) (xs ys : List Nat) (hcx : Canon xs) (hcy : Canon ys) (hnx : xs ≠ []) (hny : ys ≠ []) (hlx : xs.length ≤ 30000) (hly : ys.length ≤ 30000) (w : World) (h : Raw w A c xs) (g : Raw w B d ys) :
    Calls Tryz.prog 164 #[.agg #[.bool n1, .slice A xs.length c], .agg #[.bool n2, .slice B ys.length d]] w (RetInt w.heap.size w ((Nat.gcd (val xs) (val ys) : Nat) : Int)) := by
  have px := ((Pair.new w 24 (.bool n1) (.slice A xs.length c)).alloc (.cells #[.bool n2, .slice B ys.length d] 24)).alloc (.cells #[.bool false, .slice none 0 0] 24)
  have py := (Pair.new (w.alloc (.cells #[.bool n1, .slice A xs.length c] 24)) 24 (.bool n2) (.slice B ys.length d)).alloc (.cells #[.bool false, .slice none 0 0] 24)
  have pr := Pair.new ((w.alloc (.cells #[.bool n1, .slice A xs.length c] 24)).alloc (.cells #[.bool n2, .slice B ys.length d] 24)) 24 (.bool false) (.slice none 0 0)
  have rx := (((h.alloc (.cells #[.bool n1, .slice A xs.length c] 24)).alloc (.cells #[.bool n2, .slice B ys.length d] 24)).alloc (.cells #[.bool false, .slice none 0 0] 24))
  have ry := (((g.alloc (.cells #[.bool n1, .slice A xs.length c] 24)).alloc (.cells #[.bool n2, .slice B ys.length d] 24)).alloc (.cells #[.bool false, .slice none 0 0] 24))
  have b0 := (((Below.refl w.heap.size w).alloc (Nat.le_refl _) (.cells #[.bool n1, .slice A xs.length c] 24)).alloc (by simp) (.cells #[.bool n2, .slice B ys.length d] 24)).alloc (by simp; omega) (.cells #[.bool false, .slice none 0 0] 24)
  simp only [World.size_alloc] at py pr
  obtain ⟨X, hX⟩ : ∃ X, X = val xs := ⟨_, rfl⟩
  obtain ⟨Y, hY⟩ : ∃ Y, Y = val ys := ⟨_, rfl⟩
  have eX : natL X = xs := by rw [hX]; exact natL_val h.limbs hcx
  have eY : natL Y = ys := by rw [hY]; exact natL_val g.limbs hcy
  have hpX : 0 < X := by
    rcases Nat.eq_zero_or_pos X with h0 | h0
    · rw [h0, natL_zero] at eX; exact absurd eX.symm hnx
    · exact h0
  have hpY : 0 < Y := by
    rcases Nat.eq_zero_or_pos Y with h0 | h0
    · rw [h0, natL_zero] at eY; exact absurd eY.symm hny
    · exact h0
  rw [← hX, ← hY]
  rw [← eX] at hlx px py pr rx ry b0 ⊢
  rw [← eY] at hly px py pr rx ry b0 ⊢
  clear h g hnx hny hcx hcy eX eY hX hY
  have e1 : (((natL X).length : Int) == 0) = false := beq_false_of_ne (by have := natL_pos_len hpX; omega)
  have e2 : (((natL Y).length : Int) == 0) = false := beq_false_of_ne (by have := natL_pos_len hpY; omega)
  go_enter Tryz.func164, Tryz.ntmps164
  obtain ⟨W, E⟩ : ∃ W, W = ((w.alloc (.cells #[.bool n1, .slice A (natL X).length c] 24)).alloc (.cells #[.bool n2, .slice B (natL Y).length d] 24)).alloc (.cells #[.bool false, .slice none 0 0] 24) := ⟨_, rfl⟩
  go_wp2_with fail
  rw [← E] at px py pr b0 rx ry ⊢
  clear E e1 e2
  have PR := Lib.hid pr
  have B0 := Lib.hid b0
  have HLX := Lib.hid hlx
  have HLY := Lib.hid hly
  have HPX := Lib.hid hpX
  have HPY := Lib.hid hpY
  have H0 := Lib.hid (show Cm1 w W X Y A c X B d Y 0 from ⟨rx, ry, b0, hpX, hpY, by simp, by simp, Nat.le_refl _⟩)
  have HK0 := Lib.hid (Below.refl W.heap.size W)
  clear px py pr rx ry b0 hlx hly hpX hpY
  go_loopg [5, 6, 7] (X) (fun k v5 v6 v7 wr => ∃ A1 c1 a A2 c2 b t, v5 = .slice A1 (natL a).length c1 ∧ v6 = .slice A2 (natL b).length c2 ∧ v7 = .int .i64 (t : Nat) ∧ k = a ∧ Hid (Cm1 w wr X Y A1 c1 a A2 c2 b t ∧ Below W.heap.size W wr))
  case atStart => exact ⟨A, c, X, B, d, Y, 0, rfl, rfl, rfl, rfl, Lib.hid ⟨H0.out, HK0.out⟩⟩
  case round =>
    clear H0 HK0
    obtain ⟨A1, c1, a, A2, c2, b, t, rfl, rfl, rfl, hka, HR⟩ := hrel
    have HKA := Lib.hid hka
    clear hka
    have la := Nat.le_trans (natL_mono (Nat.le_trans (Nat.le_mul_of_pos_right a (Nat.two_pow_pos t)) HR.out.1.la)) HLX.out
    have lb := Nat.le_trans (natL_mono HR.out.1.lb) HLY.out
    have ht := twos_le HR.out.1.pa HR.out.1.la HLX.out
    by_cases hab : a % 2 = 0 ∧ b % 2 = 0
    · have C1 := Lib.hid (ref_even_n A1 c1 a HR.out.1.pa wr HR.out.1.ra true (by simp [hab.1]))
      have C2 := Lib.hid (ref_even_n A2 c2 b HR.out.1.pb wr HR.out.1.rb true (by simp [hab.2]))
      have C3 := Lib.hid (ref_half_n A1 c1 a (by omega) wr HR.out.1.ra)
      have HAB := Lib.hid hab
      clear hab
      go_wp2_with (first | (go_at_call 233; ((with_reducible refine C1.out.mono ?_); rintro e w' ⟨rfl, rfl⟩)) | (go_at_call 233; ((with_reducible refine C2.out.mono ?_); rintro e w' ⟨rfl, rfl⟩)))
      refine C3.out.mono ?_
      rintro e w1 ⟨v1, rfl, hv1, hb1⟩
      obtain ⟨A3, c3, rfl, r3⟩ := hv1.raw
      have C4 := Lib.hid (ref_half_n A2 c2 b (by omega) w1 (HR.out.1.rb.below hb1))
      have HB1 := Lib.hid hb1
      have R3 := Lib.hid r3
      clear hv1 hb1 C1 C2 C3 r3
      go_wp2_with fail
      refine C4.out.mono ?_
      rintro e w2 ⟨v2, rfl, hv2, hb2⟩
      obtain ⟨A4, c4, rfl, r4⟩ := hv2.raw
      have HN := Lib.hid (show Cm1 w w2 X Y A3 c3 (a / 2) A4 c4 (b / 2) (t + 1) ∧ Below W.heap.size W w2 from ⟨HR.out.1.next HAB.out.1 HAB.out.2 (R3.out.below hb2) r4 (belowTo (belowTo HR.out.1.low HB1.out) hb2), belowTo (belowTo HR.out.2 HB1.out) hb2⟩)
      have hlt : a / 2 < gk := by have := HR.out.1.pa; have := HKA.out; omega
      clear hv2 hb2 r4 C4 HB1 R3 HR HAB
      go_wp2_with fail
      go_roundg (a / 2)
      case measure => exact hlt
      case rel => exact ⟨A3, c3, a / 2, A4, c4, b / 2, t + 1, rfl, rfl, by go_num, rfl, HN⟩
    · have hodd := odd_of hab
      obtain ⟨g, hg⟩ : ∃ g, g = Nat.gcd a b := ⟨_, rfl⟩
      have HG := Lib.hid (show g * 2 ^ t = Nat.gcd X Y by rw [hg]; exact HR.out.1.gcd)
      have H2 := Lib.hid (show Cm2 w wr g A1 c1 a A2 c2 b 30000 ∧ Below W.heap.size W wr from ⟨⟨HR.out.1.ra, HR.out.1.rb, HR.out.1.low, HR.out.1.pb, hodd, hg.symm, la, lb⟩, HR.out.2⟩)
      have C1 := fun b0 hb0 => ref_even_n A1 c1 a HR.out.1.pa wr HR.out.1.ra b0 hb0
      have C2 := fun b0 hb0 => ref_even_n A2 c2 b HR.out.1.pb wr HR.out.1.rb b0 hb0
      have HT := Lib.hid ht
      by_cases ha : a % 2 = 0
      all_goals
        have hb : a % 2 = 0 → b % 2 = 1 := by omega
        have C3 := Lib.hid (C1 (a % 2 == 0) rfl)
        have C4 := Lib.hid (C2 (b % 2 == 0) rfl)
        clear C1 C2 hg hab la lb ht hodd HR
      · have C5 : Calls Tryz.prog 233 #[.slice A1 (natL a).length c1] wr fun e w' => e = .returned (.bool true) ∧ wr = w' := by
          have := C3.out; rwa [show (a % 2 == 0) = true by simp [ha]] at this
        have C6 : Calls Tryz.prog 233 #[.slice A2 (natL b).length c2] wr fun e w' => e = .returned (.bool false) ∧ wr = w' := by
          have := C4.out; rwa [show (b % 2 == 0) = false by simp [hb ha]] at this
        have H5 := Lib.hid C5
        have H6 := Lib.hid C6
        clear C3 C4 C5 C6 ha hb
        go_wp2_with (first | (go_at_call 233; ((with_reducible refine H5.out.mono ?_); rintro e w' ⟨rfl, rfl⟩)) | (go_at_call 233; ((with_reducible refine H6.out.mono ?_); rintro e w' ⟨rfl, rfl⟩)))
        -- LOOP2
        clear H5
        go_loopg [5, 6, 8] (a + b) (fun k v5 v6 v8 wr => ∃ A1 c1 a A2 c2 b, v5 = .slice A1 (natL a).length c1 ∧ v6 = .slice A2 (natL b).length c2 ∧ Hid (k = a + b) ∧ Hid (Cm2 w wr g A1 c1 a A2 c2 b 30000 ∧ Below W.heap.size W wr))
        case atStart => exact ⟨A1, c1, a, A2, c2, b, rfl, rfl, Lib.hid rfl, H2⟩
        case round =>
          clear H2
          rename_i HKA0 _ _
          obtain ⟨A1, c1, a, A2, c2, b, rfl, rfl, HKA, HR⟩ := hrel
          rcases Nat.eq_zero_or_pos a with ha | ha
          · subst ha
            have hgb : g = b := by have := HR.out.1.gcd; rw [Nat.gcd_zero_left] at this; exact this.symm
            have hl0 : (natL 0).length = 0 := by simp [natL_zero]
            rw [hl0]
            have C1 := ref_signed_more false A2 c2 (natL b) wr HR.out.1.rb (by rw [val_natL]; have := HR.out.1.pb; omega)
            rw [val_natL] at C1
            have H1 := Lib.hid C1
            have HGB := Lib.hid hgb
            have hnb : natL b ≠ [] := fun h0 => by have := natL_eq_nil.1 h0; have := HR.out.1.pb; omega
            have hlb := HR.out.1.lb
            clear C1 hgb hl0
            go_wp2_with fail
            refine H1.out.mono ?_
            rintro e w1 ⟨rfl, hb1⟩
            have C2 := Lib.hid (ref_Double_z false A2 c2 t (natL b) hnb (by have := HT.out; omega) (by omega) ((Nat.gcd X Y : Nat) : Int) (Lib.hid (by rw [val_natL, ← HGB.out, HG.out]; rfl)) w1 (HR.out.1.rb.below hb1))
            have HB1 := Lib.hid hb1
            clear hb1 H1
            go_wp2_with fail
            refine C2.out.mono ?_
            rintro e w2 ⟨v2, rfl, hv2, hb2⟩
            have hW2 := belowTo (belowTo HR.out.2 HB1.out) hb2
            have pr := PR.out.below hW2
            obtain ⟨l3, q0, q1, r0, r1⟩ := pr.facts
            obtain ⟨A3, c3, rfl, o3⟩ := hv2.nat
            have HO := Lib.hid ((o3.pair pr (.bool false) (.slice A3 (natL (Nat.gcd X Y)).length c3)).int.base (show w.heap.size ≤ w1.heap.size from Nat.le_trans B0.out.size (belowTo HR.out.2 HB1.out).size))
            have HB := Lib.hid (below2 (belowTo B0.out hW2) (show w.heap.size ≤ w.heap.size + 2 by omega) (.bool false) (.slice A3 (natL (Nat.gcd X Y)).length c3))
            have HQ := Lib.hid (pr.store (.bool false) (.slice A3 (natL (Nat.gcd X Y)).length c3))
            clear hv2 hb2 o3 C2 pr hW2
            go_wp2_with fail
            obtain ⟨_, k0, k1, _, _⟩ := HQ.out.facts
            exact bodyPost_ret (by simp [results, Tryz.results164, go_sem, k0, k1]) rfl ⟨_, rfl, HO.out, HB.out⟩
          · have hla : decide (0 < (natL a).length) = true := decide_eq_true (natL_pos_len ha)
            have hlen1 := HR.out.1.la
            have hlen2 := HR.out.1.lb
            obtain ⟨wo, hwo⟩ : ∃ wo : World, wo = wr := ⟨_, rfl⟩
            rw [← hwo] at HR ⊢
            clear hwo
            go_wp2_with fail
            go_loopg [5] (a) (fun k v5 wr => ∃ A1 c1 a', v5 = .slice A1 (natL a').length c1 ∧ Hid (k = a') ∧ Hid (Cm2 w wr g A1 c1 a' A2 c2 b 30000 ∧ 0 < a' ∧ a' ≤ a ∧ Below W.heap.size W wr))
            case atStart => exact ⟨A1, c1, a, rfl, Lib.hid rfl, Lib.hid ⟨HR.out.1, ha, Nat.le_refl _, HR.out.2⟩⟩
            case round =>
              obtain ⟨A3, c3, a3, rfl, HK3, HR3⟩ := hrel
              have hl3 := HR3.out.1.la
              by_cases ha2 : a3 % 2 = 0
              · have C1 := Lib.hid (ref_even_n A3 c3 a3 HR3.out.2.1 wr HR3.out.1.ra true (by simp [ha2]))
                have C2 := Lib.hid (ref_half_n A3 c3 a3 (by omega) wr HR3.out.1.ra)
                have HA2 := Lib.hid ha2
                clear ha2
                go_wp2_with (first | (go_at_call 233; ((with_reducible refine C1.out.mono ?_); rintro e w' ⟨rfl, rfl⟩)))
                refine C2.out.mono ?_
                rintro e w1 ⟨v1, rfl, hv1, hb1⟩
                obtain ⟨A4, c4, rfl, r4⟩ := hv1.raw
                have hpos := HR3.out.2.1
                have hle3 := HR3.out.2.2.1
                have he3 := HA2.out
                have HN := Lib.hid (show Cm2 w w1 g A4 c4 (a3 / 2) A2 c2 b 30000 ∧ 0 < a3 / 2 ∧ a3 / 2 ≤ a ∧ Below W.heap.size W w1 from ⟨HR3.out.1.halfa HA2.out r4 hb1, by omega, by omega, belowTo HR3.out.2.2.2 hb1⟩)
                have HM := Lib.hid (show a3 / 2 < a3 by omega)
                clear hv1 hb1 r4 C1 C2 he3 hpos hle3
                go_wp2_with fail
                go_roundg (a3 / 2)
                case measure => rw [HK3.out]; exact HM.out
                case rel => exact ⟨A4, c4, a3 / 2, rfl, Lib.hid rfl, HN⟩
              · have ho3 : a3 % 2 = 1 := by omega
                have C1 := Lib.hid (ref_even_n A3 c3 a3 HR3.out.2.1 wr HR3.out.1.ra false (by simp [ho3]))
                have HO3 := Lib.hid ho3
                clear ha2 ho3
                go_wp2_with (first | (go_at_call 233; ((with_reducible refine C1.out.mono ?_); rintro e w' ⟨rfl, rfl⟩)))
                obtain ⟨wq, hwq⟩ : ∃ wq : World, wq = wr := ⟨_, rfl⟩
                rw [← hwq] at HR3 ⊢
                clear hwq C1
                go_loopg [6] (b) (fun k v6 wr => ∃ A2 c2 b', v6 = .slice A2 (natL b').length c2 ∧ Hid (k = b') ∧ Hid (Cm2 w wr g A3 c3 a3 A2 c2 b' 30000 ∧ b' ≤ b ∧ Below W.heap.size W wr))
                case atStart => exact ⟨A2, c2, b, rfl, Lib.hid rfl, Lib.hid ⟨HR3.out.1, Nat.le_refl _, HR3.out.2.2.2⟩⟩
                case round =>
                  obtain ⟨A4, c4, b4, rfl, HK4, HR4⟩ := hrel
                  have hl4 := HR4.out.1.lb
                  by_cases hb2 : b4 % 2 = 0
                  · have C1 := Lib.hid (ref_even_n A4 c4 b4 HR4.out.1.pb wr HR4.out.1.rb true (by simp [hb2]))
                    have C2 := Lib.hid (ref_half_n A4 c4 b4 (by omega) wr HR4.out.1.rb)
                    have HB2 := Lib.hid hb2
                    clear hb2
                    go_wp2_with (first | (go_at_call 233; ((with_reducible refine C1.out.mono ?_); rintro e w' ⟨rfl, rfl⟩)))
                    refine C2.out.mono ?_
                    rintro e w1 ⟨v1, rfl, hv1, hb1⟩
                    obtain ⟨A5, c5, rfl, r5⟩ := hv1.raw
                    have hpos := HR4.out.1.pb
                    have hle4 := HR4.out.2.1
                    have he4 := HB2.out
                    have HN := Lib.hid (show Cm2 w w1 g A3 c3 a3 A5 c5 (b4 / 2) 30000 ∧ b4 / 2 ≤ b ∧ Below W.heap.size W w1 from ⟨HR4.out.1.halfb HB2.out r5 hb1, by omega, belowTo HR4.out.2.2 hb1⟩)
                    have HM := Lib.hid (show b4 / 2 < b4 by omega)
                    clear hv1 hb1 r5 C1 C2 he4 hpos hle4
                    go_wp2_with fail
                    go_roundg (b4 / 2)
                    case measure => rw [HK4.out]; exact HM.out
                    case rel => exact ⟨A5, c5, b4 / 2, rfl, Lib.hid rfl, HN⟩
                  · have ho4 : b4 % 2 = 1 := by omega
                    have C1 := Lib.hid (ref_even_n A4 c4 b4 HR4.out.1.pb wr HR4.out.1.rb false (by simp [ho4]))
                    have C2 := Lib.hid (ref_cmp_any A3 A4 c3 c4 (natL a3) (natL b4) (canon_natL _) (canon_natL _) wr HR4.out.1.ra HR4.out.1.rb)
                    have HO4 := Lib.hid ho4
                    clear hb2 ho4
                    go_wp2_with (first | (go_at_call 233; ((with_reducible refine C1.out.mono ?_); rintro e w' ⟨rfl, rfl⟩)))
                    refine C2.out.mono ?_
                    rintro e w1 ⟨rfl, hb1⟩
                    obtain ⟨z, hze⟩ : ∃ z, z = cmpv (val (natL a3)) (val (natL b4)) := ⟨_, rfl⟩
                    rw [← hze]
                    have hz2 : a3 < b4 ↔ z < 0 := by
                      rw [hze, val_natL, val_natL]
                      unfold cmpv
                      split <;> (try split) <;> omega
                    have RA := Lib.hid (HR4.out.1.ra.below hb1)
                    have RB := Lib.hid (HR4.out.1.rb.below hb1)
                    have HL := Lib.hid (belowTo HR4.out.1.low hb1)
                    have HW := Lib.hid (belowTo HR4.out.2.2 hb1)
                    have hp4 := HR4.out.1.pb
                    have hl3' := HR4.out.1.la
                    have hle3 := HR3.out.2.2.1
                    have hle4 := HR4.out.2.1
                    have hpo3 := HR3.out.2.1
                    have HGC := Lib.hid HR4.out.1.gcd
                    clear hze C1 C2 hb1
                    by_cases hlt : a3 < b4
                    · have hd : decide (z < 0) = true := by simp; omega
                      have C3 := ref_subN A4 A3 c4 c3 (natL b4) (natL a3) (natL_mono (Nat.le_of_lt hlt)) (by rw [val_natL, val_natL]; omega) (by omega) w1 RB.out RA.out
                      rw [val_natL, val_natL] at C3
                      have H3 := Lib.hid C3
                      have HLT := Lib.hid hlt
                      clear hz2 C3 hlt
                      go_wp2_with fail
                      refine H3.out.mono ?_
                      rintro e w2 ⟨v2, rfl, hv2, hb2⟩
                      obtain ⟨A6, c6, rfl, r6⟩ := hv2.raw
                      have hlt := HLT.out
                      have HN := Lib.hid (show Cm2 w w2 g A6 c6 (b4 - a3) A3 c3 a3 30000 ∧ Below W.heap.size W w2 from ⟨⟨r6, RA.out.below hb2, belowTo HL.out hb2, hpo3, .inr HO3.out, by rw [gcd_less (Nat.le_of_lt hlt), Nat.gcd_comm]; exact HGC.out, Nat.le_trans (natL_mono (Nat.sub_le _ _)) hl4, hl3'⟩, belowTo HW.out hb2⟩)
                      have HM := Lib.hid (show b4 - a3 + a3 < a + b by omega)
                      clear hv2 hb2 r6 H3 hlt
                      go_wp2_with fail
                      go_roundg (b4 - a3 + a3)
                      case measure => rw [HKA.out]; exact HM.out
                      case rel => exact ⟨A6, c6, b4 - a3, A3, c3, a3, rfl, rfl, Lib.hid rfl, HN⟩
                    · have hd : decide (z < 0) = false := by simp; omega
                      have C3 := ref_subN A3 A4 c3 c4 (natL a3) (natL b4) (natL_mono (by omega)) (by rw [val_natL, val_natL]; omega) (by omega) w1 RA.out RB.out
                      rw [val_natL, val_natL] at C3
                      have H3 := Lib.hid C3
                      have HLT := Lib.hid hlt
                      clear hz2 C3 hlt
                      go_wp2_with fail
                      refine H3.out.mono ?_
                      rintro e w2 ⟨v2, rfl, hv2, hb2⟩
                      obtain ⟨A6, c6, rfl, r6⟩ := hv2.raw
                      have hlt := HLT.out
                      have HN := Lib.hid (show Cm2 w w2 g A6 c6 (a3 - b4) A4 c4 b4 30000 ∧ Below W.heap.size W w2 from ⟨⟨r6, RB.out.below hb2, belowTo HL.out hb2, hp4, .inr HO4.out, by rw [gcd_less (by omega)]; exact HGC.out, Nat.le_trans (natL_mono (Nat.sub_le _ _)) hl3', hl4⟩, belowTo HW.out hb2⟩)
                      have HM := Lib.hid (show a3 - b4 + b4 < a + b by omega)
                      clear hv2 hb2 r6 H3 hlt
                      go_wp2_with fail
                      go_roundg (a3 - b4 + b4)
                      case measure => rw [HKA.out]; exact HM.out
                      case rel => exact ⟨A6, c6, a3 - b4, A4, c4, b4, rfl, rfl, Lib.hid rfl, HN⟩
      · have C5 : Calls Tryz.prog 233 #[.slice A1 (natL a).length c1] wr fun e w' => e = .returned (.bool false) ∧ wr = w' := by
          have := C3.out; rwa [show (a % 2 == 0) = false by simp; omega] at this
        have H5 := Lib.hid C5
        clear C3 C4 C5 ha hb
        go_wp2_with (first | (go_at_call 233; ((with_reducible refine H5.out.mono ?_); rintro e w' ⟨rfl, rfl⟩)))
        -- LOOP2
        clear H5
        go_loopg [5, 6, 8] (a + b) (fun k v5 v6 v8 wr => ∃ A1 c1 a A2 c2 b, v5 = .slice A1 (natL a).length c1 ∧ v6 = .slice A2 (natL b).length c2 ∧ Hid (k = a + b) ∧ Hid (Cm2 w wr g A1 c1 a A2 c2 b 30000 ∧ Below W.heap.size W wr))
        case atStart => exact ⟨A1, c1, a, A2, c2, b, rfl, rfl, Lib.hid rfl, H2⟩
        case round =>
          clear H2
          rename_i HKA0 _ _
          obtain ⟨A1, c1, a, A2, c2, b, rfl, rfl, HKA, HR⟩ := hrel
          rcases Nat.eq_zero_or_pos a with ha | ha
          · subst ha
            have hgb : g = b := by have := HR.out.1.gcd; rw [Nat.gcd_zero_left] at this; exact this.symm
            have hl0 : (natL 0).length = 0 := by simp [natL_zero]
            rw [hl0]
            have C1 := ref_signed_more false A2 c2 (natL b) wr HR.out.1.rb (by rw [val_natL]; have := HR.out.1.pb; omega)
            rw [val_natL] at C1
            have H1 := Lib.hid C1
            have HGB := Lib.hid hgb
            have hnb : natL b ≠ [] := fun h0 => by have := natL_eq_nil.1 h0; have := HR.out.1.pb; omega
            have hlb := HR.out.1.lb
            clear C1 hgb hl0
            go_wp2_with fail
            refine H1.out.mono ?_
            rintro e w1 ⟨rfl, hb1⟩
            have C2 := Lib.hid (ref_Double_z false A2 c2 t (natL b) hnb (by have := HT.out; omega) (by omega) ((Nat.gcd X Y : Nat) : Int) (Lib.hid (by rw [val_natL, ← HGB.out, HG.out]; rfl)) w1 (HR.out.1.rb.below hb1))
            have HB1 := Lib.hid hb1
            clear hb1 H1
            go_wp2_with fail
            refine C2.out.mono ?_
            rintro e w2 ⟨v2, rfl, hv2, hb2⟩
            have hW2 := belowTo (belowTo HR.out.2 HB1.out) hb2
            have pr := PR.out.below hW2
            obtain ⟨l3, q0, q1, r0, r1⟩ := pr.facts
            obtain ⟨A3, c3, rfl, o3⟩ := hv2.nat
            have HO := Lib.hid ((o3.pair pr (.bool false) (.slice A3 (natL (Nat.gcd X Y)).length c3)).int.base (show w.heap.size ≤ w1.heap.size from Nat.le_trans B0.out.size (belowTo HR.out.2 HB1.out).size))
            have HB := Lib.hid (below2 (belowTo B0.out hW2) (show w.heap.size ≤ w.heap.size + 2 by omega) (.bool false) (.slice A3 (natL (Nat.gcd X Y)).length c3))
            have HQ := Lib.hid (pr.store (.bool false) (.slice A3 (natL (Nat.gcd X Y)).length c3))
            clear hv2 hb2 o3 C2 pr hW2
            go_wp2_with fail
            obtain ⟨_, k0, k1, _, _⟩ := HQ.out.facts
            exact bodyPost_ret (by simp [results, Tryz.results164, go_sem, k0, k1]) rfl ⟨_, rfl, HO.out, HB.out⟩
          · have hla : decide (0 < (natL a).length) = true := decide_eq_true (natL_pos_len ha)
            have hlen1 := HR.out.1.la
            have hlen2 := HR.out.1.lb
            obtain ⟨wo, hwo⟩ : ∃ wo : World, wo = wr := ⟨_, rfl⟩
            rw [← hwo] at HR ⊢
            clear hwo
            go_wp2_with fail
            go_loopg [5] (a) (fun k v5 wr => ∃ A1 c1 a', v5 = .slice A1 (natL a').length c1 ∧ Hid (k = a') ∧ Hid (Cm2 w wr g A1 c1 a' A2 c2 b 30000 ∧ 0 < a' ∧ a' ≤ a ∧ Below W.heap.size W wr))
            case atStart => exact ⟨A1, c1, a, rfl, Lib.hid rfl, Lib.hid ⟨HR.out.1, ha, Nat.le_refl _, HR.out.2⟩⟩
            case round =>
              obtain ⟨A3, c3, a3, rfl, HK3, HR3⟩ := hrel
              have hl3 := HR3.out.1.la
              by_cases ha2 : a3 % 2 = 0
              · have C1 := Lib.hid (ref_even_n A3 c3 a3 HR3.out.2.1 wr HR3.out.1.ra true (by simp [ha2]))
                have C2 := Lib.hid (ref_half_n A3 c3 a3 (by omega) wr HR3.out.1.ra)
                have HA2 := Lib.hid ha2
                clear ha2
                go_wp2_with (first | (go_at_call 233; ((with_reducible refine C1.out.mono ?_); rintro e w' ⟨rfl, rfl⟩)))
                refine C2.out.mono ?_
                rintro e w1 ⟨v1, rfl, hv1, hb1⟩
                obtain ⟨A4, c4, rfl, r4⟩ := hv1.raw
                have hpos := HR3.out.2.1
                have hle3 := HR3.out.2.2.1
                have he3 := HA2.out
                have HN := Lib.hid (show Cm2 w w1 g A4 c4 (a3 / 2) A2 c2 b 30000 ∧ 0 < a3 / 2 ∧ a3 / 2 ≤ a ∧ Below W.heap.size W w1 from ⟨HR3.out.1.halfa HA2.out r4 hb1, by omega, by omega, belowTo HR3.out.2.2.2 hb1⟩)
                have HM := Lib.hid (show a3 / 2 < a3 by omega)
                clear hv1 hb1 r4 C1 C2 he3 hpos hle3
                go_wp2_with fail
                go_roundg (a3 / 2)
                case measure => rw [HK3.out]; exact HM.out
                case rel => exact ⟨A4, c4, a3 / 2, rfl, Lib.hid rfl, HN⟩
              · have ho3 : a3 % 2 = 1 := by omega
                have C1 := Lib.hid (ref_even_n A3 c3 a3 HR3.out.2.1 wr HR3.out.1.ra false (by simp [ho3]))
                have HO3 := Lib.hid ho3
                clear ha2 ho3
                go_wp2_with (first | (go_at_call 233; ((with_reducible refine C1.out.mono ?_); rintro e w' ⟨rfl, rfl⟩)))
                obtain ⟨wq, hwq⟩ : ∃ wq : World, wq = wr := ⟨_, rfl⟩
                rw [← hwq] at HR3 ⊢
                clear hwq C1
                go_loopg [6] (b) (fun k v6 wr => ∃ A2 c2 b', v6 = .slice A2 (natL b').length c2 ∧ Hid (k = b') ∧ Hid (Cm2 w wr g A3 c3 a3 A2 c2 b' 30000 ∧ b' ≤ b ∧ Below W.heap.size W wr))
                case atStart => exact ⟨A2, c2, b, rfl, Lib.hid rfl, Lib.hid ⟨HR3.out.1, Nat.le_refl _, HR3.out.2.2.2⟩⟩
                case round =>
                  obtain ⟨A4, c4, b4, rfl, HK4, HR4⟩ := hrel
                  have hl4 := HR4.out.1.lb
                  by_cases hb2 : b4 % 2 = 0
                  · have C1 := Lib.hid (ref_even_n A4 c4 b4 HR4.out.1.pb wr HR4.out.1.rb true (by simp [hb2]))
                    have C2 := Lib.hid (ref_half_n A4 c4 b4 (by omega) wr HR4.out.1.rb)
                    have HB2 := Lib.hid hb2
                    clear hb2
                    go_wp2_with (first | (go_at_call 233; ((with_reducible refine C1.out.mono ?_); rintro e w' ⟨rfl, rfl⟩)))
                    refine C2.out.mono ?_
                    rintro e w1 ⟨v1, rfl, hv1, hb1⟩
                    obtain ⟨A5, c5, rfl, r5⟩ := hv1.raw
                    have hpos := HR4.out.1.pb
                    have hle4 := HR4.out.2.1
                    have he4 := HB2.out
                    have HN := Lib.hid (show Cm2 w w1 g A3 c3 a3 A5 c5 (b4 / 2) 30000 ∧ b4 / 2 ≤ b ∧ Below W.heap.size W w1 from ⟨HR4.out.1.halfb HB2.out r5 hb1, by omega, belowTo HR4.out.2.2 hb1⟩)
                    have HM := Lib.hid (show b4 / 2 < b4 by omega)
                    clear hv1 hb1 r5 C1 C2 he4 hpos hle4
                    go_wp2_with fail
                    go_roundg (b4 / 2)
                    case measure => rw [HK4.out]; exact HM.out
                    case rel => exact ⟨A5, c5, b4 / 2, rfl, Lib.hid rfl, HN⟩
                  · have ho4 : b4 % 2 = 1 := by omega
                    have C1 := Lib.hid (ref_even_n A4 c4 b4 HR4.out.1.pb wr HR4.out.1.rb false (by simp [ho4]))
                    have C2 := Lib.hid (ref_cmp_any A3 A4 c3 c4 (natL a3) (natL b4) (canon_natL _) (canon_natL _) wr HR4.out.1.ra HR4.out.1.rb)
                    have HO4 := Lib.hid ho4
                    clear hb2 ho4
                    go_wp2_with (first | (go_at_call 233; ((with_reducible refine C1.out.mono ?_); rintro e w' ⟨rfl, rfl⟩)))
                    refine C2.out.mono ?_
                    rintro e w1 ⟨rfl, hb1⟩
                    obtain ⟨z, hze⟩ : ∃ z, z = cmpv (val (natL a3)) (val (natL b4)) := ⟨_, rfl⟩
                    rw [← hze]
                    have hz2 : a3 < b4 ↔ z < 0 := by
                      rw [hze, val_natL, val_natL]
                      unfold cmpv
                      split <;> (try split) <;> omega
                    have RA := Lib.hid (HR4.out.1.ra.below hb1)
                    have RB := Lib.hid (HR4.out.1.rb.below hb1)
                    have HL := Lib.hid (belowTo HR4.out.1.low hb1)
                    have HW := Lib.hid (belowTo HR4.out.2.2 hb1)
                    have hp4 := HR4.out.1.pb
                    have hl3' := HR4.out.1.la
                    have hle3 := HR3.out.2.2.1
                    have hle4 := HR4.out.2.1
                    have hpo3 := HR3.out.2.1
                    have HGC := Lib.hid HR4.out.1.gcd
                    clear hze C1 C2 hb1
                    by_cases hlt : a3 < b4
                    · have hd : decide (z < 0) = true := by simp; omega
                      have C3 := ref_subN A4 A3 c4 c3 (natL b4) (natL a3) (natL_mono (Nat.le_of_lt hlt)) (by rw [val_natL, val_natL]; omega) (by omega) w1 RB.out RA.out
                      rw [val_natL, val_natL] at C3
                      have H3 := Lib.hid C3
                      have HLT := Lib.hid hlt
                      clear hz2 C3 hlt
                      go_wp2_with fail
                      refine H3.out.mono ?_
                      rintro e w2 ⟨v2, rfl, hv2, hb2⟩
                      obtain ⟨A6, c6, rfl, r6⟩ := hv2.raw
                      have hlt := HLT.out
                      have HN := Lib.hid (show Cm2 w w2 g A6 c6 (b4 - a3) A3 c3 a3 30000 ∧ Below W.heap.size W w2 from ⟨⟨r6, RA.out.below hb2, belowTo HL.out hb2, hpo3, .inr HO3.out, by rw [gcd_less (Nat.le_of_lt hlt), Nat.gcd_comm]; exact HGC.out, Nat.le_trans (natL_mono (Nat.sub_le _ _)) hl4, hl3'⟩, belowTo HW.out hb2⟩)
                      have HM := Lib.hid (show b4 - a3 + a3 < a + b by omega)
                      clear hv2 hb2 r6 H3 hlt
                      go_wp2_with fail
                      go_roundg (b4 - a3 + a3)
                      case measure => rw [HKA.out]; exact HM.out
                      case rel => exact ⟨A6, c6, b4 - a3, A3, c3, a3, rfl, rfl, Lib.hid rfl, HN⟩
                    · have hd : decide (z < 0) = false := by simp; omega
                      have C3 := ref_subN A3 A4 c3 c4 (natL a3) (natL b4) (natL_mono (by omega)) (by rw [val_natL, val_natL]; omega) (by omega) w1 RA.out RB.out
                      rw [val_natL, val_natL] at C3
                      have H3 := Lib.hid C3
                      have HLT := Lib.hid hlt
                      clear hz2 C3 hlt
                      go_wp2_with fail
                      refine H3.out.mono ?_
                      rintro e w2 ⟨v2, rfl, hv2, hb2⟩
                      obtain ⟨A6, c6, rfl, r6⟩ := hv2.raw
                      have hlt := HLT.out
                      have HN := Lib.hid (show Cm2 w w2 g A6 c6 (a3 - b4) A4 c4 b4 30000 ∧ Below W.heap.size W w2 from ⟨⟨r6, RB.out.below hb2, belowTo HL.out hb2, hp4, .inr HO4.out, by rw [gcd_less (by omega)]; exact HGC.out, Nat.le_trans (natL_mono (Nat.sub_le _ _)) hl3', hl4⟩, belowTo HW.out hb2⟩)
                      have HM := Lib.hid (show a3 - b4 + b4 < a + b by omega)
                      clear hv2 hb2 r6 H3 hlt
                      go_wp2_with fail
                      go_roundg (a3 - b4 + b4)
                      case measure => rw [HKA.out]; exact HM.out
                      case rel => exact ⟨A6, c6, a3 - b4, A4, c4, b4, rfl, rfl, Lib.hid rfl, HN⟩
end Go.Proofs.YtadmoheohmbieaaGreatDoor

/- QuoRem and GCD of package whole and of the references. (Written by wip/exact/gendivops.py.) -/
namespace Go.Proofs.YtadmoheohmbieaaGreatDoor
open Go.RowKit

/-- Two numbers of the call's own that share no memory, and an error. -/
def RetTwo3 (base : Nat) (w : World) (z1 z2 k : Int) (e : Ending) (w' : World) : Prop := ∃ v1 v2, e = .returned (.tuple #[v1, v2, .int .i64 k]) ∧ Ints2 w' base v1 z1 v2 z2 ∧ Below w.heap.size w w'
/-- Two numbers of the call's own, and an error. -/
def RetBoth3 (base : Nat) (w : World) (z1 z2 k : Int) (e : Ending) (w' : World) : Prop := ∃ v1 v2, e = .returned (.tuple #[v1, v2, .int .i64 k]) ∧ IntOwn w' base v1 z1 ∧ IntOwn w' base v2 z2 ∧ Below w.heap.size w w'
/-- A number wherever it lies, and an error. -/
def RetAt2 (w : World) (z k : Int) (e : Ending) (w' : World) : Prop := ∃ v, e = .returned (.tuple #[v, .int .i64 k]) ∧ IntAt w' v z ∧ Below w.heap.size w w'
theorem Ints2.drew {w : World} {base : Nat} {v1 v2 : Value} {z1 z2 : Int} (h : Ints2 w base v1 z1 v2 z2) : Ints2 w.drew base v1 z1 v2 z2 := h.below (Below.refl _ _).drew
theorem IntOwn.drew {w : World} {base : Nat} {v : Value} {x : Int} (h : IntOwn w base v x) : IntOwn w.drew base v x := h.below (Below.refl _ _).drew
theorem Ints2.nought (w : World) (base : Nat) : Ints2 w base (.agg #[.bool false, .slice none 0 0]) 0 (.agg #[.bool false, .slice none 0 0]) 0 :=
  ⟨IntOwn.nought _ _, IntOwn.nought _ _, fun g h => by cases h⟩
def quoV (n1 : Bool) (xs : List Nat) (n2 : Bool) (ys : List Nat) : Int := if okI n1 xs && okI n2 ys then (if ys.length = 0 then 0 else (ival n1 xs).tdiv (ival n2 ys)) else 0
def remV (n1 : Bool) (xs : List Nat) (n2 : Bool) (ys : List Nat) : Int := if okI n1 xs && okI n2 ys then (if ys.length = 0 then 0 else (ival n1 xs).tmod (ival n2 ys)) else 0
def quoE (n1 : Bool) (xs : List Nat) (n2 : Bool) (ys : List Nat) : Int := if okI n1 xs && okI n2 ys then (if ys.length = 0 then 3 else 0) else 1
def gcdV (n1 : Bool) (xs : List Nat) (n2 : Bool) (ys : List Nat) : Int := if okI n1 xs && okI n2 ys then ((Nat.gcd (val xs) (val ys) : Nat) : Int) else 0
def gcdE (n1 : Bool) (xs : List Nat) (n2 : Bool) (ys : List Nat) : Int := if okI n1 xs && okI n2 ys then 0 else 1

set_option maxRecDepth 100000 in
set_option maxHeartbeats 1000000 in
theorem ref_Common_left (n1 n2 : Bool) (A B : Option Addr) (c d : Nat) (xs ys : List Nat) (he : xs = []) (w : World) (h : Raw w A c xs) (g : Raw w B d ys) :
    Calls Tryz.prog 164 #[.agg #[.bool n1, .slice A xs.length c], .agg #[.bool n2, .slice B ys.length d]] w fun e w' => e = .returned (sv false B d ys) ∧ Below w.heap.size w w' := by
  have hl1 : ((xs.length : Int) == 0) = true := by subst he; rfl
  have C1 := Lib.hid (fun (V : World) (h : Raw V B d ys) => ref_signed_sv false B d ys V h)
  obtain ⟨b9, A9, k9, c9, hsv⟩ := sv_form false B d ys
  rw [hsv] at C1 ⊢
  clear he hsv
  have px := (((Pair.new w 24 (.bool n1) (.slice A xs.length c)).alloc (.cells #[.bool n2, .slice B ys.length d] 24)).alloc (.cells #[.bool false, .slice none 0 0] 24))
  have py := ((Pair.new (w.alloc (.cells #[.bool n1, .slice A xs.length c] 24)) 24 (.bool n2) (.slice B ys.length d)).alloc (.cells #[.bool false, .slice none 0 0] 24))
  have pq := (Pair.new ((w.alloc (.cells #[.bool n1, .slice A xs.length c] 24)).alloc (.cells #[.bool n2, .slice B ys.length d] 24)) 24 (.bool false) (.slice none 0 0))
  have rx := (((h.alloc (.cells #[.bool n1, .slice A xs.length c] 24)).alloc (.cells #[.bool n2, .slice B ys.length d] 24)).alloc (.cells #[.bool false, .slice none 0 0] 24))
  have ry := (((g.alloc (.cells #[.bool n1, .slice A xs.length c] 24)).alloc (.cells #[.bool n2, .slice B ys.length d] 24)).alloc (.cells #[.bool false, .slice none 0 0] 24))
  have b0 := (((Below.refl w.heap.size w).alloc (Nat.le_refl _) (.cells #[.bool n1, .slice A xs.length c] 24)).alloc (by simp) (.cells #[.bool n2, .slice B ys.length d] 24)).alloc (by simp; omega) (.cells #[.bool false, .slice none 0 0] 24)
  simp only [World.size_alloc] at py pq
  clear h g
  go_enter Tryz.func164, Tryz.ntmps164
  go_wp2_with fail
  obtain ⟨W, E⟩ : ∃ W, W = (((w.alloc (.cells #[.bool n1, .slice A xs.length c] 24)).alloc (.cells #[.bool n2, .slice B ys.length d] 24)).alloc (.cells #[.bool false, .slice none 0 0] 24)) := ⟨_, rfl⟩
  rw [← E] at px py pq b0 rx ry ⊢
  have hsz : W.heap.size = w.heap.size + 3 := by rw [E]; simp
  clear E
  have PX := Lib.hid px
  have PY := Lib.hid py
  have PQ := Lib.hid pq
  have B0 := Lib.hid b0
  have RX := Lib.hid rx
  have RY := Lib.hid ry
  obtain ⟨l1, x0, x1, -, -⟩ := px.facts
  obtain ⟨l2, y0, y1, -, -⟩ := py.facts
  clear px py pq rx ry b0
  go_wp2_with fail
  refine (C1.out W RY.out).mono ?_
  rintro e w1 ⟨rfl, hb⟩
  have pq := PQ.out.below hb
  obtain ⟨l3, q0, q1, f0, f1⟩ := pq.facts
  have hq := pq.store (.bool b9) (.slice A9 k9 c9)
  have HB := Lib.hid (below2 (belowTo B0.out hb) (show w.heap.size ≤ w.heap.size + 1 + 1 by omega) (.bool b9) (.slice A9 k9 c9))
  have HQ := Lib.hid hq
  clear pq hq hb C1 PX PY RX RY
  go_wp2_with fail
  obtain ⟨_, k0, k1, _, _⟩ := HQ.out.facts
  exact bodyPost_ret (by simp [results, Tryz.results164, go_sem, k0, k1]) rfl ⟨rfl, HB.out⟩

set_option maxRecDepth 100000 in
set_option maxHeartbeats 1000000 in
theorem ref_Common_right (n1 n2 : Bool) (A B : Option Addr) (c d : Nat) (xs ys : List Nat) (hne : xs ≠ []) (he : ys = []) (w : World) (h : Raw w A c xs) (g : Raw w B d ys) :
    Calls Tryz.prog 164 #[.agg #[.bool n1, .slice A xs.length c], .agg #[.bool n2, .slice B ys.length d]] w fun e w' => e = .returned (sv false A c xs) ∧ Below w.heap.size w w' := by
  have hl1 : ((xs.length : Int) == 0) = false := by have : xs.length ≠ 0 := fun e => hne (List.eq_nil_of_length_eq_zero e); simp; omega
  have hl2 : ((ys.length : Int) == 0) = true := by subst he; rfl
  have C1 := Lib.hid (fun (V : World) (h : Raw V A c xs) => ref_signed_sv false A c xs V h)
  obtain ⟨b9, A9, k9, c9, hsv⟩ := sv_form false A c xs
  rw [hsv] at C1 ⊢
  clear he hsv hne
  have px := (((Pair.new w 24 (.bool n1) (.slice A xs.length c)).alloc (.cells #[.bool n2, .slice B ys.length d] 24)).alloc (.cells #[.bool false, .slice none 0 0] 24))
  have py := ((Pair.new (w.alloc (.cells #[.bool n1, .slice A xs.length c] 24)) 24 (.bool n2) (.slice B ys.length d)).alloc (.cells #[.bool false, .slice none 0 0] 24))
  have pq := (Pair.new ((w.alloc (.cells #[.bool n1, .slice A xs.length c] 24)).alloc (.cells #[.bool n2, .slice B ys.length d] 24)) 24 (.bool false) (.slice none 0 0))
  have rx := (((h.alloc (.cells #[.bool n1, .slice A xs.length c] 24)).alloc (.cells #[.bool n2, .slice B ys.length d] 24)).alloc (.cells #[.bool false, .slice none 0 0] 24))
  have ry := (((g.alloc (.cells #[.bool n1, .slice A xs.length c] 24)).alloc (.cells #[.bool n2, .slice B ys.length d] 24)).alloc (.cells #[.bool false, .slice none 0 0] 24))
  have b0 := (((Below.refl w.heap.size w).alloc (Nat.le_refl _) (.cells #[.bool n1, .slice A xs.length c] 24)).alloc (by simp) (.cells #[.bool n2, .slice B ys.length d] 24)).alloc (by simp; omega) (.cells #[.bool false, .slice none 0 0] 24)
  simp only [World.size_alloc] at py pq
  clear h g
  go_enter Tryz.func164, Tryz.ntmps164
  go_wp2_with fail
  obtain ⟨W, E⟩ : ∃ W, W = (((w.alloc (.cells #[.bool n1, .slice A xs.length c] 24)).alloc (.cells #[.bool n2, .slice B ys.length d] 24)).alloc (.cells #[.bool false, .slice none 0 0] 24)) := ⟨_, rfl⟩
  rw [← E] at px py pq b0 rx ry ⊢
  have hsz : W.heap.size = w.heap.size + 3 := by rw [E]; simp
  clear E
  have PX := Lib.hid px
  have PY := Lib.hid py
  have PQ := Lib.hid pq
  have B0 := Lib.hid b0
  have RX := Lib.hid rx
  have RY := Lib.hid ry
  obtain ⟨l1, x0, x1, -, -⟩ := px.facts
  obtain ⟨l2, y0, y1, -, -⟩ := py.facts
  clear px py pq rx ry b0
  go_wp2_with fail
  refine (C1.out W RX.out).mono ?_
  rintro e w1 ⟨rfl, hb⟩
  have pq := PQ.out.below hb
  obtain ⟨l3, q0, q1, f0, f1⟩ := pq.facts
  have hq := pq.store (.bool b9) (.slice A9 k9 c9)
  have HB := Lib.hid (below2 (belowTo B0.out hb) (show w.heap.size ≤ w.heap.size + 1 + 1 by omega) (.bool b9) (.slice A9 k9 c9))
  have HQ := Lib.hid hq
  clear pq hq hb C1 PX PY RX RY
  go_wp2_with fail
  obtain ⟨_, k0, k1, _, _⟩ := HQ.out.facts
  exact bodyPost_ret (by simp [results, Tryz.results164, go_sem, k0, k1]) rfl ⟨rfl, HB.out⟩

/-- The greatest common divisor: of the call's own, or one of the two as it came. -/
def RetOf (A B : Option Addr) (c d : Nat) (xs ys : List Nat) (w : World) (z : Int) (e : Ending) (w' : World) : Prop := ∃ v, e = .returned v ∧ (IntOwn w' w.heap.size v z ∨ (v = sv false A c xs ∧ z = ival false xs) ∨ (v = sv false B d ys ∧ z = ival false ys)) ∧ Below w.heap.size w w'
theorem ref_Common (n1 n2 : Bool) (A B : Option Addr) (c d : Nat) (xs ys : List Nat) (hcx : Canon xs) (hcy : Canon ys) (hlx : xs.length ≤ 30000) (hly : ys.length ≤ 30000) (w : World) (h : Raw w A c xs) (g : Raw w B d ys) :
    Calls Tryz.prog 164 #[.agg #[.bool n1, .slice A xs.length c], .agg #[.bool n2, .slice B ys.length d]] w (RetOf A B c d xs ys w ((Nat.gcd (val xs) (val ys) : Nat) : Int)) := by
  by_cases hx : xs = []
  · refine (ref_Common_left n1 n2 A B c d xs ys hx w h g).mono ?_
    rintro e w' ⟨rfl, hb⟩
    exact ⟨_, rfl, .inr (.inr ⟨rfl, by subst hx; simp [val, ival]⟩), hb⟩
  · by_cases hy : ys = []
    · refine (ref_Common_right n1 n2 A B c d xs ys hx hy w h g).mono ?_
      rintro e w' ⟨rfl, hb⟩
      exact ⟨_, rfl, .inr (.inl ⟨rfl, by subst hy; simp [val, ival]⟩), hb⟩
    · refine (ref_Common_more n1 n2 A B c d xs ys hcx hcy hx hy hlx hly w h g).mono ?_
      rintro e w' ⟨v, rfl, hv, hb⟩
      exact ⟨v, rfl, .inl hv, hb⟩

end Go.Proofs.YtadmoheohmbieaaGreatDoor

/- The references calls over numbers, told by the numbers alone. (Written by wip/exact/genz.py.) -/
namespace Go.Proofs.YtadmoheohmbieaaGreatDoor
open Go.RowKit
theorem rplus (x y z : Int) (A B : Option Addr) (c d : Nat) (w : World) (h : Raw w A c (natL x.natAbs)) (g : Raw w B d (natL y.natAbs)) (hx : lz x ≤ 500000000) (hy : lz y ≤ 500000000) (hz : z = x + y) :
    Calls Tryz.prog 200 #[.agg #[.bool (decide (x < 0)), .slice A (natL x.natAbs).length c], .agg #[.bool (decide (y < 0)), .slice B (natL y.natAbs).length d]] w (RetInt w.heap.size w z) := by
  have := ref_Plus (decide (x < 0)) (decide (y < 0)) A B c d (natL x.natAbs) (natL y.natAbs) (canon_natL _) (canon_natL _) (by unfold lz at hx; omega) (by unfold lz at hy; omega) w h g
  rw [ival_at, ival_at, ← hz] at this
  exact this
theorem rtimes (x y z : Int) (A B : Option Addr) (c d : Nat) (w : World) (h : Raw w A c (natL x.natAbs)) (g : Raw w B d (natL y.natAbs)) (hx : lz x ≤ 500000000) (hy : lz y ≤ 500000000) (hz : z = x * y) :
    Calls Tryz.prog 127 #[.agg #[.bool (decide (x < 0)), .slice A (natL x.natAbs).length c], .agg #[.bool (decide (y < 0)), .slice B (natL y.natAbs).length d]] w (RetInt w.heap.size w z) := by
  have := ref_Times (decide (x < 0)) (decide (y < 0)) A B c d (natL x.natAbs) (natL y.natAbs) (by unfold lz at hx; omega) (by unfold lz at hy; omega) w h g
  rw [ival_at, ival_at, ← hz] at this
  exact this
theorem rdivide (x y q r : Int) (A B : Option Addr) (c d : Nat) (w : World) (h : Raw w A c (natL x.natAbs)) (g : Raw w B d (natL y.natAbs)) (hx : lz x ≤ 500000000) (hy : lz y ≤ 500000000) (hy0 : y ≠ 0) (hq : q = x.tdiv y) (hr : r = x.tmod y) :
    Calls Tryz.prog 159 #[.agg #[.bool (decide (x < 0)), .slice A (natL x.natAbs).length c], .agg #[.bool (decide (y < 0)), .slice B (natL y.natAbs).length d]] w (RetBoth w.heap.size w q r) := by
  have h0 : natL y.natAbs ≠ [] := fun e => by
    have := natL_eq_nil.1 e
    omega
  have := ref_Divide (decide (x < 0)) (decide (y < 0)) A B c d (natL x.natAbs) (natL y.natAbs) (canon_natL _) h0 (by unfold lz at hx; omega) (by unfold lz at hy; omega) w h g
  rw [ival_at, ival_at, ← hq, ← hr] at this
  exact this
theorem rcmp (x y k : Int) (A B : Option Addr) (c d : Nat) (w : World) (h : Raw w A c (natL x.natAbs)) (g : Raw w B d (natL y.natAbs)) (_ : lz x ≤ 500000000) (_ : lz y ≤ 500000000) (hk : k = cmpz x y) :
    Calls Tryz.prog 165 #[.agg #[.bool (decide (x < 0)), .slice A (natL x.natAbs).length c], .agg #[.bool (decide (y < 0)), .slice B (natL y.natAbs).length d]] w fun e w' => e = .returned (.int .i64 k) ∧ Below w.heap.size w w' := by
  have s1 := sgn_z x
  have s2 := sgn_z y
  rcases Int.lt_trichotomy x.sign y.sign with hl | hl | hl
  · have := ref_Cmp_less (decide (x < 0)) (decide (y < 0)) A B c d (natL x.natAbs) (natL y.natAbs) _ _ hl s1 s2 w h g
    have e : k = -1 := by rw [hk]; exact cmpz_lt (sign_lt hl)
    rw [e]; exact this
  · have := ref_Cmp_same (decide (x < 0)) (decide (y < 0)) A B c d (natL x.natAbs) (natL y.natAbs) x.sign (sign_neg x) s1 (by rw [s2, hl]) (canon_natL _) (canon_natL _) w h g
    have e : (if decide (x < 0) = true then cmpv (val (natL y.natAbs)) (val (natL x.natAbs)) else cmpv (val (natL x.natAbs)) (val (natL y.natAbs))) = k := by
      rw [hk, val_natL, val_natL]
      exact (cmp_like hl).symm
    rw [e] at this
    exact this
  · have := ref_Cmp_more (decide (x < 0)) (decide (y < 0)) A B c d (natL x.natAbs) (natL y.natAbs) _ _ hl s1 s2 w h g
    have e : k = 1 := by rw [hk]; exact cmpz_gt (sign_lt hl)
    rw [e]; exact this
theorem rsign (x k : Int) (A : Option Addr) (c : Nat) (w : World) (h : Raw w A c (natL x.natAbs)) (hk : k = x.sign) :
    Calls Tryz.prog 63 #[.agg #[.bool (decide (x < 0)), .slice A (natL x.natAbs).length c]] w fun e w' => e = .returned (.int .i64 k) ∧ Below w.heap.size w w' := by
  have := ref_Sign_any (decide (x < 0)) A c _ w h
  rw [sgn_z, ← hk] at this
  exact this
theorem rbits (x k : Int) (A : Option Addr) (c : Nat) (w : World) (h : Raw w A c (natL x.natAbs)) (hx : lz x ≤ 200000000) (hk : k = ((bitsI (natL x.natAbs) : Nat) : Int)) :
    Calls Tryz.prog 163 #[.agg #[.bool (decide (x < 0)), .slice A (natL x.natAbs).length c]] w fun e w' => e = .returned (.int .i64 k) ∧ Below w.heap.size w w' := by
  have := ref_Bits_any (decide (x < 0)) A c _ w h (by unfold lz at hx; omega)
  rw [← hk] at this
  exact this
theorem rof (n z : Int) (hz : z = n) (h1 : -9223372036854775808 ≤ n) (h2 : n ≤ 9223372036854775807) (w : World) : Calls Tryz.prog 18 #[.int .i64 n] w (RetInt w.heap.size w z) := by
  rw [hz]; exact ref_Of n h1 h2 w
theorem rdouble (x z k : Int) (A : Option Addr) (c : Nat) (w : World) (h : Raw w A c (natL x.natAbs)) (hx : lz x ≤ 1000000) (hx0 : x ≠ 0) (hk0 : 0 ≤ k) (hk : k ≤ 1048576) (hz : z = x * ((2 ^ k.toNat : Nat) : Int)) :
    Calls Tryz.prog 209 #[.agg #[.bool (decide (x < 0)), .slice A (natL x.natAbs).length c], .int .i64 k] w (RetInt w.heap.size w z) := by
  have hne : natL x.natAbs ≠ [] := fun e => by have := natL_eq_nil.1 e; omega
  have := ref_Double_z (decide (x < 0)) A c k.toNat (natL x.natAbs) hne (by omega) (by unfold lz at hx; omega) z (Lib.hid (by rw [hz, ← ival_mul, ival_at])) w h
  rw [Int.toNat_of_nonneg hk0] at this
  exact this
end Go.Proofs.YtadmoheohmbieaaGreatDoor
