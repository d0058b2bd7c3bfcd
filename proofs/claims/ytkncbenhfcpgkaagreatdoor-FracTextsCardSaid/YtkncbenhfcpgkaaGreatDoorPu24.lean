/- Several texts in one: RefTimesq1, RefCommonq1, Commonq1, DivOpsq1. -/
import Derived.Test.YtkncbenhfcpgkaaGreatDoorPu14
import Derived.Test.YtkncbenhfcpgkaaGreatDoorPuHd
import Derived.Test.YtkncbenhfcpgkaaGreatDoorPu07
import Derived.Test.YtkncbenhfcpgkaaGreatDoorPu12
import Derived.Test.YtkncbenhfcpgkaaGreatDoorPu23
import Derived.Test.YtkncbenhfcpgkaaGreatDoorPu05
import Derived.Test.YtkncbenhfcpgkaaGreatDoorPu04
import Derived.Test.YtkncbenhfcpgkaaGreatDoorPu22
import Derived.Test.YtkncbenhfcpgkaaGreatDoorPu01
import Derived.Test.YtkncbenhfcpgkaaGreatDoorPu03
import Derived.Test.YtkncbenhfcpgkaaGreatDoorPu02
import Derived.Test.YtkncbenhfcpgkaaGreatDoorPu06
import Derived.Test.YtkncbenhfcpgkaaGreatDoorPu15
import Derived.Test.YtkncbenhfcpgkaaGreatDoorPu11
import Derived.Test.YtkncbenhfcpgkaaGreatDoorPu13
import Derived.Test.YtkncbenhfcpgkaaGreatDoorPu08
import Derived.Deep.LoopGhost
import Derived.Test.YtkncbenhfcpgkaaGreatDoorPu16
set_option maxRecDepth 100000
set_option maxHeartbeats 8000000
/- times, fitting, half, even of the references. -/
namespace Go.Proofs.YtkncbenhfcpgkaaGreatDoor
open Go.RowKit

theorem val_even {xs : List Nat} (h : 0 < xs.length) : val xs % 2 = xs[0] % 2 := by
  cases xs with
  | nil => simp at h
  | cons x xs => simp only [val, List.getElem_cons_zero]; omega
theorem ref_even (A : Option Addr) (c : Nat) (xs : List Nat) (h0 : 0 < xs.length) (w : World) (h : Raw w A c xs) (b : Bool) (hb : b = (val xs % 2 == 0)) :
    Calls Tryz.prog 228 #[.slice A xs.length c] w fun e w' => e = .returned (.bool b) ∧ w = w' := by
  obtain ⟨ad, rfl, hbl, hx⟩ := h.reads.get h0
  have hbx := limbs_get h.limbs h0
  rw [val_even h0] at hb
  have HB := Hd hb
  generalize xs[0] = x at hx hbx HB
  have hi : (0 : Int) < (xs.length : Int) := by omega
  simp [Addr.add] at hx
  clear h hb hbl
  go_enter Tryz.func228, Tryz.ntmps228
  go_wp2_with fail
  go_ret
  refine ⟨?_, rfl⟩
  have e : ((x : Int) % 2 == 0) = b := by rw [HB.out, Bool.eq_iff_iff]; simp; omega
  rw [e]; rfl
/- Common of the references: the greatest number that goes into both, by halving. -/

theorem gcd_even {a b : Nat} (ha : a % 2 = 0) (hb : b % 2 = 0) : Nat.gcd a b = 2 * Nat.gcd (a / 2) (b / 2) := by
  have e1 : a = 2 * (a / 2) := by omega
  have e2 : b = 2 * (b / 2) := by omega
  conv => lhs; rw [e1, e2]
  exact Nat.gcd_mul_left 2 _ _
theorem gcd_half_left {a b : Nat} (ha : a % 2 = 0) (hb : b % 2 = 1) : Nat.gcd (a / 2) b = Nat.gcd a b := by
  have e1 : a = 2 * (a / 2) := by omega
  conv => rhs; rw [e1]
  have hc : Nat.Coprime 2 b := by
    rw [Nat.coprime_iff_gcd_eq_one, Nat.gcd_rec, hb]; rfl
  exact (Nat.Coprime.gcd_mul_left_cancel (a / 2) hc).symm
theorem gcd_half_right {a b : Nat} (ha : a % 2 = 1) (hb : b % 2 = 0) : Nat.gcd a (b / 2) = Nat.gcd a b := by
  rw [Nat.gcd_comm, gcd_half_left hb ha, Nat.gcd_comm]
theorem gcd_less {a b : Nat} (h : b ≤ a) : Nat.gcd (a - b) b = Nat.gcd a b := Nat.gcd_sub_self_left h

theorem Cm1.next {w wr wr' : World} {X Y : Nat} {A1 A2 A1' A2' : Option Addr} {c1 a c2 b t c1' c2' : Nat} (h : Cm1 w wr X Y A1 c1 a A2 c2 b t) (ha : a % 2 = 0) (hb : b % 2 = 0) (r1 : Raw wr' A1' c1' (natL (a / 2))) (r2 : Raw wr' A2' c2' (natL (b / 2))) (hl : Below w.heap.size w wr') : Cm1 w wr' X Y A1' c1' (a / 2) A2' c2' (b / 2) (t + 1) := by
  have h1 := h.pa
  have h2 := h.pb
  refine ⟨r1, r2, hl, by omega, by omega, ?_, ?_, by have := h.lb; omega⟩
  · rw [← h.gcd, gcd_even ha hb, Nat.pow_succ]
    generalize 2 ^ t = p
    rw [Nat.mul_comm p 2, ← Nat.mul_assoc, Nat.mul_comm _ 2]
  · have := h.la
    rw [Nat.pow_succ]
    have e : a / 2 * (2 ^ t * 2) = (a / 2 * 2) * 2 ^ t := by rw [Nat.mul_comm (2 ^ t), Nat.mul_assoc]
    rw [e, show a / 2 * 2 = a by omega]
    exact this
theorem twos_le {X a t L : Nat} (ha : 0 < a) (h : a * 2 ^ t ≤ X) (hX : (natL X).length ≤ L) : t ≤ 32 * L := by
  have h1 : X < 2 ^ (32 * L) := by
    have := natL_length_le.1 hX
    rw [show 4294967296 = 2 ^ 32 by decide, ← Nat.pow_mul] at this
    exact this
  have h2 : 2 ^ t ≤ X := Nat.le_trans (Nat.le_mul_of_pos_left _ ha) h
  have h3 : 2 ^ t < 2 ^ (32 * L) := by omega
  exact Nat.le_of_lt ((Nat.pow_lt_pow_iff_right (by omega)).1 h3)

theorem odd_of {a b : Nat} (h : ¬ (a % 2 = 0 ∧ b % 2 = 0)) : a % 2 = 1 ∨ b % 2 = 1 := by omega
theorem Cm2.halfa {w wr wr' : World} {g : Nat} {A1 A2 A1' : Option Addr} {c1 a c2 b L c1' : Nat} (h : Cm2 w wr g A1 c1 a A2 c2 b L) (ha : a % 2 = 0) (r1 : Raw wr' A1' c1' (natL (a / 2))) (hb : Below wr.heap.size wr wr') : Cm2 w wr' g A1' c1' (a / 2) A2 c2 b L := by
  have ho : b % 2 = 1 := by have := h.odd; omega
  exact ⟨r1, h.rb.below hb, belowTo h.low hb, h.pb, .inr ho, by rw [gcd_half_left ha ho]; exact h.gcd, Nat.le_trans (natL_mono (Nat.div_le_self _ _)) h.la, h.lb⟩
theorem Cm2.halfb {w wr wr' : World} {g : Nat} {A1 A2 A2' : Option Addr} {c1 a c2 b L c2' : Nat} (h : Cm2 w wr g A1 c1 a A2 c2 b L) (hb0 : b % 2 = 0) (r2 : Raw wr' A2' c2' (natL (b / 2))) (hb : Below wr.heap.size wr wr') : Cm2 w wr' g A1 c1 a A2' c2' (b / 2) L := by
  have ho : a % 2 = 1 := by have := h.odd; omega
  have := h.pb
  exact ⟨h.ra.below hb, r2, belowTo h.low hb, by omega, .inl ho, by rw [gcd_half_right ho hb0]; exact h.gcd, h.la, Nat.le_trans (natL_mono (Nat.div_le_self _ _)) h.lb⟩
theorem natL_pos_len {a : Nat} (h : 0 < a) : 0 < (natL a).length := by
  rcases Nat.eq_zero_or_pos (natL a).length with h0 | h0
  · have := natL_eq_nil.1 (List.eq_nil_of_length_eq_zero h0)
    omega
  · exact h0
theorem ref_half_n (A : Option Addr) (c a : Nat) (hl : (natL a).length ≤ 1073741824) (w : World) (h : Raw w A c (natL a)) :
    Calls Tryz.prog 121 #[.slice A (natL a).length c] w (RetN w.heap.size w (a / 2)) := by
  have := ref_half A c (natL a) hl w h
  rwa [val_natL] at this
theorem ref_even_n (A : Option Addr) (c a : Nat) (h0 : 0 < a) (w : World) (h : Raw w A c (natL a)) (b : Bool) (hb : b = (a % 2 == 0)) :
    Calls Tryz.prog 228 #[.slice A (natL a).length c] w fun e w' => e = .returned (.bool b) ∧ w = w' :=
  ref_even A c (natL a) (natL_pos_len h0) w h b (by rw [val_natL]; exact hb)

theorem ref_Common_more (n1 n2 : Bool) (A B : Option Addr) (c d : Nat) (xs ys : List Nat) (hcx : Canon xs) (hcy : Canon ys) (hnx : xs ≠ []) (hny : ys ≠ []) (hlx : xs.length ≤ 30000) (hly : ys.length ≤ 30000) (w : World) (h : Raw w A c xs) (g : Raw w B d ys) :
    Calls Tryz.prog 212 #[.agg #[.bool n1, .slice A xs.length c], .agg #[.bool n2, .slice B ys.length d]] w (RetInt w.heap.size w ((Nat.gcd (val xs) (val ys) : Nat) : Int)) := by
  have px := ((Pair.new w 24 (.bool n1) (.slice A xs.length c)).alloc (.cells #[.bool n2, .slice B ys.length d] 24)).alloc (.cells #[.bool false, .slice none 0 0] 24)
  have py := (Pair.new (w.alloc (.cells #[.bool n1, .slice A xs.length c] 24)) 24 (.bool n2) (.slice B ys.length d)).alloc (.cells #[.bool false, .slice none 0 0] 24)
  have pr := Pair.new ((w.alloc (.cells #[.bool n1, .slice A xs.length c] 24)).alloc (.cells #[.bool n2, .slice B ys.length d] 24)) 24 (.bool false) (.slice none 0 0)
  have rx := (((h.alloc (.cells #[.bool n1, .slice A xs.length c] 24)).alloc (.cells #[.bool n2, .slice B ys.length d] 24)).alloc (.cells #[.bool false, .slice none 0 0] 24))
  have ry := (((g.alloc (.cells #[.bool n1, .slice A xs.length c] 24)).alloc (.cells #[.bool n2, .slice B ys.length d] 24)).alloc (.cells #[.bool false, .slice none 0 0] 24))
  have b0 := (((Below.refl w.heap.size w).alloc (Nat.le_refl _) (.cells #[.bool n1, .slice A xs.length c] 24)).alloc (by simp) (.cells #[.bool n2, .slice B ys.length d] 24)).alloc (by simp; omega) (.cells #[.bool false, .slice none 0 0] 24)
  simp only [World.size_alloc] at py pr
  obtain ⟨X, hX⟩ : ∃ X, X = val xs := ⟨_, rfl⟩
  obtain ⟨Y, hY⟩ : ∃ Y, Y = val ys := ⟨_, rfl⟩
  have eX : natL X = xs := by rw [hX]; exact natL_val h.limbs hcx
  have eY : natL Y = ys := by rw [hY]; exact natL_val g.limbs hcy
  have hpX : 0 < X := by
    rcases Nat.eq_zero_or_pos X with h0 | h0
    · rw [h0, natL_zero] at eX; exact absurd eX.symm hnx
    · exact h0
  have hpY : 0 < Y := by
    rcases Nat.eq_zero_or_pos Y with h0 | h0
    · rw [h0, natL_zero] at eY; exact absurd eY.symm hny
    · exact h0
  rw [← hX, ← hY]
  rw [← eX] at hlx px py pr rx ry b0 ⊢
  rw [← eY] at hly px py pr rx ry b0 ⊢
  clear h g hnx hny hcx hcy eX eY hX hY
  have e1 : (((natL X).length : Int) == 0) = false := beq_false_of_ne (by have := natL_pos_len hpX; omega)
  have e2 : (((natL Y).length : Int) == 0) = false := beq_false_of_ne (by have := natL_pos_len hpY; omega)
  go_enter Tryz.func212, Tryz.ntmps212
  obtain ⟨W, E⟩ : ∃ W, W = ((w.alloc (.cells #[.bool n1, .slice A (natL X).length c] 24)).alloc (.cells #[.bool n2, .slice B (natL Y).length d] 24)).alloc (.cells #[.bool false, .slice none 0 0] 24) := ⟨_, rfl⟩
  go_wp2_with fail
  rw [← E] at px py pr b0 rx ry ⊢
  clear E e1 e2
  have PR := Hd pr
  have B0 := Hd b0
  have HLX := Hd hlx
  have HLY := Hd hly
  have HPX := Hd hpX
  have HPY := Hd hpY
  have H0 := Hd (show Cm1 w W X Y A c X B d Y 0 from ⟨rx, ry, b0, hpX, hpY, by simp, by simp, Nat.le_refl _⟩)
  have HK0 := Hd (Below.refl W.heap.size W)
  clear px py pr rx ry b0 hlx hly hpX hpY
  go_loopg [5, 6, 7] (X) (fun k v5 v6 v7 wr => ∃ A1 c1 a A2 c2 b t, v5 = .slice A1 (natL a).length c1 ∧ v6 = .slice A2 (natL b).length c2 ∧ v7 = .int .i64 (t : Nat) ∧ k = a ∧ Hid (Cm1 w wr X Y A1 c1 a A2 c2 b t ∧ Below W.heap.size W wr))
  case atStart => exact ⟨A, c, X, B, d, Y, 0, rfl, rfl, rfl, rfl, Hd ⟨H0.out, HK0.out⟩⟩
  case round =>
    clear H0 HK0
    obtain ⟨A1, c1, a, A2, c2, b, t, rfl, rfl, rfl, hka, HR⟩ := hrel
    have HKA := Hd hka
    clear hka
    have la := Nat.le_trans (natL_mono (Nat.le_trans (Nat.le_mul_of_pos_right a (Nat.two_pow_pos t)) HR.out.1.la)) HLX.out
    have lb := Nat.le_trans (natL_mono HR.out.1.lb) HLY.out
    have ht := twos_le HR.out.1.pa HR.out.1.la HLX.out
    by_cases hab : a % 2 = 0 ∧ b % 2 = 0
    · have C1 := Hd (ref_even_n A1 c1 a HR.out.1.pa wr HR.out.1.ra true (by simp [hab.1]))
      have C2 := Hd (ref_even_n A2 c2 b HR.out.1.pb wr HR.out.1.rb true (by simp [hab.2]))
      have C3 := Hd (ref_half_n A1 c1 a (by omega) wr HR.out.1.ra)
      have HAB := Hd hab
      clear hab
      go_wp2_with (first | (go_at_call 228; ((with_reducible refine C1.out.mono ?_); rintro e w' ⟨rfl, rfl⟩)) | (go_at_call 228; ((with_reducible refine C2.out.mono ?_); rintro e w' ⟨rfl, rfl⟩)))
      refine C3.out.mono ?_
      rintro e w1 ⟨v1, rfl, hv1, hb1⟩
      obtain ⟨A3, c3, rfl, r3⟩ := hv1.raw
      have C4 := Hd (ref_half_n A2 c2 b (by omega) w1 (HR.out.1.rb.below hb1))
      have HB1 := Hd hb1
      have R3 := Hd r3
      clear hv1 hb1 C1 C2 C3 r3
      go_wp2_with fail
      refine C4.out.mono ?_
      rintro e w2 ⟨v2, rfl, hv2, hb2⟩
      obtain ⟨A4, c4, rfl, r4⟩ := hv2.raw
      have HN := Hd (show Cm1 w w2 X Y A3 c3 (a / 2) A4 c4 (b / 2) (t + 1) ∧ Below W.heap.size W w2 from ⟨HR.out.1.next HAB.out.1 HAB.out.2 (R3.out.below hb2) r4 (belowTo (belowTo HR.out.1.low HB1.out) hb2), belowTo (belowTo HR.out.2 HB1.out) hb2⟩)
      have hlt : a / 2 < gk := by have := HR.out.1.pa; have := HKA.out; omega
      clear hv2 hb2 r4 C4 HB1 R3 HR HAB
      go_wp2_with fail
      go_roundg (a / 2)
      case measure => exact hlt
      case rel => exact ⟨A3, c3, a / 2, A4, c4, b / 2, t + 1, rfl, rfl, by go_num, rfl, HN⟩
    · have hodd := odd_of hab
      obtain ⟨g, hg⟩ : ∃ g, g = Nat.gcd a b := ⟨_, rfl⟩
      have HG := Hd (show g * 2 ^ t = Nat.gcd X Y by rw [hg]; exact HR.out.1.gcd)
      have H2 := Hd (show Cm2 w wr g A1 c1 a A2 c2 b 30000 ∧ Below W.heap.size W wr from ⟨⟨HR.out.1.ra, HR.out.1.rb, HR.out.1.low, HR.out.1.pb, hodd, hg.symm, la, lb⟩, HR.out.2⟩)
      have C1 := fun b0 hb0 => ref_even_n A1 c1 a HR.out.1.pa wr HR.out.1.ra b0 hb0
      have C2 := fun b0 hb0 => ref_even_n A2 c2 b HR.out.1.pb wr HR.out.1.rb b0 hb0
      have HT := Hd ht
      by_cases ha : a % 2 = 0
      all_goals
        have hb : a % 2 = 0 → b % 2 = 1 := by omega
        have C3 := Hd (C1 (a % 2 == 0) rfl)
        have C4 := Hd (C2 (b % 2 == 0) rfl)
        clear C1 C2 hg hab la lb ht hodd HR
      · have C5 : Calls Tryz.prog 228 #[.slice A1 (natL a).length c1] wr fun e w' => e = .returned (.bool true) ∧ wr = w' := by
          have := C3.out; rwa [show (a % 2 == 0) = true by simp [ha]] at this
        have C6 : Calls Tryz.prog 228 #[.slice A2 (natL b).length c2] wr fun e w' => e = .returned (.bool false) ∧ wr = w' := by
          have := C4.out; rwa [show (b % 2 == 0) = false by simp [hb ha]] at this
        have H5 := Hd C5
        have H6 := Hd C6
        clear C3 C4 C5 C6 ha hb
        go_wp2_with (first | (go_at_call 228; ((with_reducible refine H5.out.mono ?_); rintro e w' ⟨rfl, rfl⟩)) | (go_at_call 228; ((with_reducible refine H6.out.mono ?_); rintro e w' ⟨rfl, rfl⟩)))
        -- LOOP2
        clear H5
        go_loopg [5, 6, 8] (a + b) (fun k v5 v6 v8 wr => ∃ A1 c1 a A2 c2 b, v5 = .slice A1 (natL a).length c1 ∧ v6 = .slice A2 (natL b).length c2 ∧ Hid (k = a + b) ∧ Hid (Cm2 w wr g A1 c1 a A2 c2 b 30000 ∧ Below W.heap.size W wr))
        case atStart => exact ⟨A1, c1, a, A2, c2, b, rfl, rfl, Hd rfl, H2⟩
        case round =>
          clear H2
          rename_i HKA0 _ _
          obtain ⟨A1, c1, a, A2, c2, b, rfl, rfl, HKA, HR⟩ := hrel
          rcases Nat.eq_zero_or_pos a with ha | ha
          · subst ha
            have hgb : g = b := by have := HR.out.1.gcd; rw [Nat.gcd_zero_left] at this; exact this.symm
            have hl0 : (natL 0).length = 0 := by simp [natL_zero]
            rw [hl0]
            have C1 := ref_signed_more false A2 c2 (natL b) wr HR.out.1.rb (by rw [val_natL]; have := HR.out.1.pb; omega)
            rw [val_natL] at C1
            have H1 := Hd C1
            have HGB := Hd hgb
            have hnb : natL b ≠ [] := fun h0 => by have := natL_eq_nil.1 h0; have := HR.out.1.pb; omega
            have hlb := HR.out.1.lb
            clear C1 hgb hl0
            go_wp2_with fail
            refine H1.out.mono ?_
            rintro e w1 ⟨rfl, hb1⟩
            have C2 := Hd (ref_Double_z false A2 c2 t (natL b) hnb (by have := HT.out; omega) (by omega) ((Nat.gcd X Y : Nat) : Int) (Hd (by rw [val_natL, ← HGB.out, HG.out]; rfl)) w1 (HR.out.1.rb.below hb1))
            have HB1 := Hd hb1
            clear hb1 H1
            go_wp2_with fail
            refine C2.out.mono ?_
            rintro e w2 ⟨v2, rfl, hv2, hb2⟩
            have hW2 := belowTo (belowTo HR.out.2 HB1.out) hb2
            have pr := PR.out.below hW2
            obtain ⟨l3, q0, q1, r0, r1⟩ := pr.facts
            obtain ⟨A3, c3, rfl, o3⟩ := hv2.nat
            have HO := Hd ((o3.pair pr (.bool false) (.slice A3 (natL (Nat.gcd X Y)).length c3)).int.base (show w.heap.size ≤ w1.heap.size from Nat.le_trans B0.out.size (belowTo HR.out.2 HB1.out).size))
            have HB := Hd (below2 (belowTo B0.out hW2) (show w.heap.size ≤ w.heap.size + 2 by omega) (.bool false) (.slice A3 (natL (Nat.gcd X Y)).length c3))
            have HQ := Hd (pr.store (.bool false) (.slice A3 (natL (Nat.gcd X Y)).length c3))
            clear hv2 hb2 o3 C2 pr hW2
            go_wp2_with fail
            obtain ⟨_, k0, k1, _, _⟩ := HQ.out.facts
            exact bodyPost_ret (by simp [results, Tryz.results212, go_sem, k0, k1]) rfl ⟨_, rfl, HO.out, HB.out⟩
          · have hla : decide (0 < (natL a).length) = true := decide_eq_true (natL_pos_len ha)
            have hlen1 := HR.out.1.la
            have hlen2 := HR.out.1.lb
            obtain ⟨wo, hwo⟩ : ∃ wo : World, wo = wr := ⟨_, rfl⟩
            rw [← hwo] at HR ⊢
            clear hwo
            go_wp2_with fail
            go_loopg [5] (a) (fun k v5 wr => ∃ A1 c1 a', v5 = .slice A1 (natL a').length c1 ∧ Hid (k = a') ∧ Hid (Cm2 w wr g A1 c1 a' A2 c2 b 30000 ∧ 0 < a' ∧ a' ≤ a ∧ Below W.heap.size W wr))
            case atStart => exact ⟨A1, c1, a, rfl, Hd rfl, Hd ⟨HR.out.1, ha, Nat.le_refl _, HR.out.2⟩⟩
            case round =>
              obtain ⟨A3, c3, a3, rfl, HK3, HR3⟩ := hrel
              have hl3 := HR3.out.1.la
              by_cases ha2 : a3 % 2 = 0
              · have C1 := Hd (ref_even_n A3 c3 a3 HR3.out.2.1 wr HR3.out.1.ra true (by simp [ha2]))
                have C2 := Hd (ref_half_n A3 c3 a3 (by omega) wr HR3.out.1.ra)
                have HA2 := Hd ha2
                clear ha2
                go_wp2_with (first | (go_at_call 228; ((with_reducible refine C1.out.mono ?_); rintro e w' ⟨rfl, rfl⟩)))
                refine C2.out.mono ?_
                rintro e w1 ⟨v1, rfl, hv1, hb1⟩
                obtain ⟨A4, c4, rfl, r4⟩ := hv1.raw
                have hpos := HR3.out.2.1
                have hle3 := HR3.out.2.2.1
                have he3 := HA2.out
                have HN := Hd (show Cm2 w w1 g A4 c4 (a3 / 2) A2 c2 b 30000 ∧ 0 < a3 / 2 ∧ a3 / 2 ≤ a ∧ Below W.heap.size W w1 from ⟨HR3.out.1.halfa HA2.out r4 hb1, by omega, by omega, belowTo HR3.out.2.2.2 hb1⟩)
                have HM := Hd (show a3 / 2 < a3 by omega)
                clear hv1 hb1 r4 C1 C2 he3 hpos hle3
                go_wp2_with fail
                go_roundg (a3 / 2)
                case measure => rw [HK3.out]; exact HM.out
                case rel => exact ⟨A4, c4, a3 / 2, rfl, Hd rfl, HN⟩
              · have ho3 : a3 % 2 = 1 := by omega
                have C1 := Hd (ref_even_n A3 c3 a3 HR3.out.2.1 wr HR3.out.1.ra false (by simp [ho3]))
                have HO3 := Hd ho3
                clear ha2 ho3
                go_wp2_with (first | (go_at_call 228; ((with_reducible refine C1.out.mono ?_); rintro e w' ⟨rfl, rfl⟩)))
                obtain ⟨wq, hwq⟩ : ∃ wq : World, wq = wr := ⟨_, rfl⟩
                rw [← hwq] at HR3 ⊢
                clear hwq C1
                go_loopg [6] (b) (fun k v6 wr => ∃ A2 c2 b', v6 = .slice A2 (natL b').length c2 ∧ Hid (k = b') ∧ Hid (Cm2 w wr g A3 c3 a3 A2 c2 b' 30000 ∧ b' ≤ b ∧ Below W.heap.size W wr))
                case atStart => exact ⟨A2, c2, b, rfl, Hd rfl, Hd ⟨HR3.out.1, Nat.le_refl _, HR3.out.2.2.2⟩⟩
                case round =>
                  obtain ⟨A4, c4, b4, rfl, HK4, HR4⟩ := hrel
                  have hl4 := HR4.out.1.lb
                  by_cases hb2 : b4 % 2 = 0
                  · have C1 := Hd (ref_even_n A4 c4 b4 HR4.out.1.pb wr HR4.out.1.rb true (by simp [hb2]))
                    have C2 := Hd (ref_half_n A4 c4 b4 (by omega) wr HR4.out.1.rb)
                    have HB2 := Hd hb2
                    clear hb2
                    go_wp2_with (first | (go_at_call 228; ((with_reducible refine C1.out.mono ?_); rintro e w' ⟨rfl, rfl⟩)))
                    refine C2.out.mono ?_
                    rintro e w1 ⟨v1, rfl, hv1, hb1⟩
                    obtain ⟨A5, c5, rfl, r5⟩ := hv1.raw
                    have hpos := HR4.out.1.pb
                    have hle4 := HR4.out.2.1
                    have he4 := HB2.out
                    have HN := Hd (show Cm2 w w1 g A3 c3 a3 A5 c5 (b4 / 2) 30000 ∧ b4 / 2 ≤ b ∧ Below W.heap.size W w1 from ⟨HR4.out.1.halfb HB2.out r5 hb1, by omega, belowTo HR4.out.2.2 hb1⟩)
                    have HM := Hd (show b4 / 2 < b4 by omega)
                    clear hv1 hb1 r5 C1 C2 he4 hpos hle4
                    go_wp2_with fail
                    go_roundg (b4 / 2)
                    case measure => rw [HK4.out]; exact HM.out
                    case rel => exact ⟨A5, c5, b4 / 2, rfl, Hd rfl, HN⟩
                  · have ho4 : b4 % 2 = 1 := by omega
                    have C1 := Hd (ref_even_n A4 c4 b4 HR4.out.1.pb wr HR4.out.1.rb false (by simp [ho4]))
                    have C2 := Hd (ref_cmp_any A3 A4 c3 c4 (natL a3) (natL b4) (canon_natL _) (canon_natL _) wr HR4.out.1.ra HR4.out.1.rb)
                    have HO4 := Hd ho4
                    clear hb2 ho4
                    go_wp2_with (first | (go_at_call 228; ((with_reducible refine C1.out.mono ?_); rintro e w' ⟨rfl, rfl⟩)))
                    refine C2.out.mono ?_
                    rintro e w1 ⟨rfl, hb1⟩
                    obtain ⟨z, hze⟩ : ∃ z, z = cmpv (val (natL a3)) (val (natL b4)) := ⟨_, rfl⟩
                    rw [← hze]
                    have hz2 : a3 < b4 ↔ z < 0 := by
                      rw [hze, val_natL, val_natL]
                      unfold cmpv
                      split <;> (try split) <;> omega
                    have RA := Hd (HR4.out.1.ra.below hb1)
                    have RB := Hd (HR4.out.1.rb.below hb1)
                    have HL := Hd (belowTo HR4.out.1.low hb1)
                    have HW := Hd (belowTo HR4.out.2.2 hb1)
                    have hp4 := HR4.out.1.pb
                    have hl3' := HR4.out.1.la
                    have hle3 := HR3.out.2.2.1
                    have hle4 := HR4.out.2.1
                    have hpo3 := HR3.out.2.1
                    have HGC := Hd HR4.out.1.gcd
                    clear hze C1 C2 hb1
                    by_cases hlt : a3 < b4
                    · have hd : decide (z < 0) = true := by simp; omega
                      have C3 := ref_subN A4 A3 c4 c3 (natL b4) (natL a3) (natL_mono (Nat.le_of_lt hlt)) (by rw [val_natL, val_natL]; omega) (by omega) w1 RB.out RA.out
                      rw [val_natL, val_natL] at C3
                      have H3 := Hd C3
                      have HLT := Hd hlt
                      clear hz2 C3 hlt
                      go_wp2_with fail
                      refine H3.out.mono ?_
                      rintro e w2 ⟨v2, rfl, hv2, hb2⟩
                      obtain ⟨A6, c6, rfl, r6⟩ := hv2.raw
                      have hlt := HLT.out
                      have HN := Hd (show Cm2 w w2 g A6 c6 (b4 - a3) A3 c3 a3 30000 ∧ Below W.heap.size W w2 from ⟨⟨r6, RA.out.below hb2, belowTo HL.out hb2, hpo3, .inr HO3.out, by rw [gcd_less (Nat.le_of_lt hlt), Nat.gcd_comm]; exact HGC.out, Nat.le_trans (natL_mono (Nat.sub_le _ _)) hl4, hl3'⟩, belowTo HW.out hb2⟩)
                      have HM := Hd (show b4 - a3 + a3 < a + b by omega)
                      clear hv2 hb2 r6 H3 hlt
                      go_wp2_with fail
                      go_roundg (b4 - a3 + a3)
                      case measure => rw [HKA.out]; exact HM.out
                      case rel => exact ⟨A6, c6, b4 - a3, A3, c3, a3, rfl, rfl, Hd rfl, HN⟩
                    · have hd : decide (z < 0) = false := by simp; omega
                      have C3 := ref_subN A3 A4 c3 c4 (natL a3) (natL b4) (natL_mono (by omega)) (by rw [val_natL, val_natL]; omega) (by omega) w1 RA.out RB.out
                      rw [val_natL, val_natL] at C3
                      have H3 := Hd C3
                      have HLT := Hd hlt
                      clear hz2 C3 hlt
                      go_wp2_with fail
                      refine H3.out.mono ?_
                      rintro e w2 ⟨v2, rfl, hv2, hb2⟩
                      obtain ⟨A6, c6, rfl, r6⟩ := hv2.raw
                      have hlt := HLT.out
                      have HN := Hd (show Cm2 w w2 g A6 c6 (a3 - b4) A4 c4 b4 30000 ∧ Below W.heap.size W w2 from ⟨⟨r6, RB.out.below hb2, belowTo HL.out hb2, hp4, .inr HO4.out, by rw [gcd_less (by omega)]; exact HGC.out, Nat.le_trans (natL_mono (Nat.sub_le _ _)) hl3', hl4⟩, belowTo HW.out hb2⟩)
                      have HM := Hd (show a3 - b4 + b4 < a + b by omega)
                      clear hv2 hb2 r6 H3 hlt
                      go_wp2_with fail
                      go_roundg (a3 - b4 + b4)
                      case measure => rw [HKA.out]; exact HM.out
                      case rel => exact ⟨A6, c6, a3 - b4, A4, c4, b4, rfl, rfl, Hd rfl, HN⟩
      · have C5 : Calls Tryz.prog 228 #[.slice A1 (natL a).length c1] wr fun e w' => e = .returned (.bool false) ∧ wr = w' := by
          have := C3.out; rwa [show (a % 2 == 0) = false by simp; omega] at this
        have H5 := Hd C5
        clear C3 C4 C5 ha hb
        go_wp2_with (first | (go_at_call 228; ((with_reducible refine H5.out.mono ?_); rintro e w' ⟨rfl, rfl⟩)))
        -- LOOP2
        clear H5
        go_loopg [5, 6, 8] (a + b) (fun k v5 v6 v8 wr => ∃ A1 c1 a A2 c2 b, v5 = .slice A1 (natL a).length c1 ∧ v6 = .slice A2 (natL b).length c2 ∧ Hid (k = a + b) ∧ Hid (Cm2 w wr g A1 c1 a A2 c2 b 30000 ∧ Below W.heap.size W wr))
        case atStart => exact ⟨A1, c1, a, A2, c2, b, rfl, rfl, Hd rfl, H2⟩
        case round =>
          clear H2
          rename_i HKA0 _ _
          obtain ⟨A1, c1, a, A2, c2, b, rfl, rfl, HKA, HR⟩ := hrel
          rcases Nat.eq_zero_or_pos a with ha | ha
          · subst ha
            have hgb : g = b := by have := HR.out.1.gcd; rw [Nat.gcd_zero_left] at this; exact this.symm
            have hl0 : (natL 0).length = 0 := by simp [natL_zero]
            rw [hl0]
            have C1 := ref_signed_more false A2 c2 (natL b) wr HR.out.1.rb (by rw [val_natL]; have := HR.out.1.pb; omega)
            rw [val_natL] at C1
            have H1 := Hd C1
            have HGB := Hd hgb
            have hnb : natL b ≠ [] := fun h0 => by have := natL_eq_nil.1 h0; have := HR.out.1.pb; omega
            have hlb := HR.out.1.lb
            clear C1 hgb hl0
            go_wp2_with fail
            refine H1.out.mono ?_
            rintro e w1 ⟨rfl, hb1⟩
            have C2 := Hd (ref_Double_z false A2 c2 t (natL b) hnb (by have := HT.out; omega) (by omega) ((Nat.gcd X Y : Nat) : Int) (Hd (by rw [val_natL, ← HGB.out, HG.out]; rfl)) w1 (HR.out.1.rb.below hb1))
            have HB1 := Hd hb1
            clear hb1 H1
            go_wp2_with fail
            refine C2.out.mono ?_
            rintro e w2 ⟨v2, rfl, hv2, hb2⟩
            have hW2 := belowTo (belowTo HR.out.2 HB1.out) hb2
            have pr := PR.out.below hW2
            obtain ⟨l3, q0, q1, r0, r1⟩ := pr.facts
            obtain ⟨A3, c3, rfl, o3⟩ := hv2.nat
            have HO := Hd ((o3.pair pr (.bool false) (.slice A3 (natL (Nat.gcd X Y)).length c3)).int.base (show w.heap.size ≤ w1.heap.size from Nat.le_trans B0.out.size (belowTo HR.out.2 HB1.out).size))
            have HB := Hd (below2 (belowTo B0.out hW2) (show w.heap.size ≤ w.heap.size + 2 by omega) (.bool false) (.slice A3 (natL (Nat.gcd X Y)).length c3))
            have HQ := Hd (pr.store (.bool false) (.slice A3 (natL (Nat.gcd X Y)).length c3))
            clear hv2 hb2 o3 C2 pr hW2
            go_wp2_with fail
            obtain ⟨_, k0, k1, _, _⟩ := HQ.out.facts
            exact bodyPost_ret (by simp [results, Tryz.results212, go_sem, k0, k1]) rfl ⟨_, rfl, HO.out, HB.out⟩
          · have hla : decide (0 < (natL a).length) = true := decide_eq_true (natL_pos_len ha)
            have hlen1 := HR.out.1.la
            have hlen2 := HR.out.1.lb
            obtain ⟨wo, hwo⟩ : ∃ wo : World, wo = wr := ⟨_, rfl⟩
            rw [← hwo] at HR ⊢
            clear hwo
            go_wp2_with fail
            go_loopg [5] (a) (fun k v5 wr => ∃ A1 c1 a', v5 = .slice A1 (natL a').length c1 ∧ Hid (k = a') ∧ Hid (Cm2 w wr g A1 c1 a' A2 c2 b 30000 ∧ 0 < a' ∧ a' ≤ a ∧ Below W.heap.size W wr))
            case atStart => exact ⟨A1, c1, a, rfl, Hd rfl, Hd ⟨HR.out.1, ha, Nat.le_refl _, HR.out.2⟩⟩
            case round =>
              obtain ⟨A3, c3, a3, rfl, HK3, HR3⟩ := hrel
              have hl3 := HR3.out.1.la
              by_cases ha2 : a3 % 2 = 0
              · have C1 := Hd (ref_even_n A3 c3 a3 HR3.out.2.1 wr HR3.out.1.ra true (by simp [ha2]))
                have C2 := Hd (ref_half_n A3 c3 a3 (by omega) wr HR3.out.1.ra)
                have HA2 := Hd ha2
                clear ha2
                go_wp2_with (first | (go_at_call 228; ((with_reducible refine C1.out.mono ?_); rintro e w' ⟨rfl, rfl⟩)))
                refine C2.out.mono ?_
                rintro e w1 ⟨v1, rfl, hv1, hb1⟩
                obtain ⟨A4, c4, rfl, r4⟩ := hv1.raw
                have hpos := HR3.out.2.1
                have hle3 := HR3.out.2.2.1
                have he3 := HA2.out
                have HN := Hd (show Cm2 w w1 g A4 c4 (a3 / 2) A2 c2 b 30000 ∧ 0 < a3 / 2 ∧ a3 / 2 ≤ a ∧ Below W.heap.size W w1 from ⟨HR3.out.1.halfa HA2.out r4 hb1, by omega, by omega, belowTo HR3.out.2.2.2 hb1⟩)
                have HM := Hd (show a3 / 2 < a3 by omega)
                clear hv1 hb1 r4 C1 C2 he3 hpos hle3
                go_wp2_with fail
                go_roundg (a3 / 2)
                case measure => rw [HK3.out]; exact HM.out
                case rel => exact ⟨A4, c4, a3 / 2, rfl, Hd rfl, HN⟩
              · have ho3 : a3 % 2 = 1 := by omega
                have C1 := Hd (ref_even_n A3 c3 a3 HR3.out.2.1 wr HR3.out.1.ra false (by simp [ho3]))
                have HO3 := Hd ho3
                clear ha2 ho3
                go_wp2_with (first | (go_at_call 228; ((with_reducible refine C1.out.mono ?_); rintro e w' ⟨rfl, rfl⟩)))
                obtain ⟨wq, hwq⟩ : ∃ wq : World, wq = wr := ⟨_, rfl⟩
                rw [← hwq] at HR3 ⊢
                clear hwq C1
                go_loopg [6] (b) (fun k v6 wr => ∃ A2 c2 b', v6 = .slice A2 (natL b').length c2 ∧ Hid (k = b') ∧ Hid (Cm2 w wr g A3 c3 a3 A2 c2 b' 30000 ∧ b' ≤ b ∧ Below W.heap.size W wr))
                case atStart => exact ⟨A2, c2, b, rfl, Hd rfl, Hd ⟨HR3.out.1, Nat.le_refl _, HR3.out.2.2.2⟩⟩
                case round =>
                  obtain ⟨A4, c4, b4, rfl, HK4, HR4⟩ := hrel
                  have hl4 := HR4.out.1.lb
                  by_cases hb2 : b4 % 2 = 0
                  · have C1 := Hd (ref_even_n A4 c4 b4 HR4.out.1.pb wr HR4.out.1.rb true (by simp [hb2]))
                    have C2 := Hd (ref_half_n A4 c4 b4 (by omega) wr HR4.out.1.rb)
                    have HB2 := Hd hb2
                    clear hb2
                    go_wp2_with (first | (go_at_call 228; ((with_reducible refine C1.out.mono ?_); rintro e w' ⟨rfl, rfl⟩)))
                    refine C2.out.mono ?_
                    rintro e w1 ⟨v1, rfl, hv1, hb1⟩
                    obtain ⟨A5, c5, rfl, r5⟩ := hv1.raw
                    have hpos := HR4.out.1.pb
                    have hle4 := HR4.out.2.1
                    have he4 := HB2.out
                    have HN := Hd (show Cm2 w w1 g A3 c3 a3 A5 c5 (b4 / 2) 30000 ∧ b4 / 2 ≤ b ∧ Below W.heap.size W w1 from ⟨HR4.out.1.halfb HB2.out r5 hb1, by omega, belowTo HR4.out.2.2 hb1⟩)
                    have HM := Hd (show b4 / 2 < b4 by omega)
                    clear hv1 hb1 r5 C1 C2 he4 hpos hle4
                    go_wp2_with fail
                    go_roundg (b4 / 2)
                    case measure => rw [HK4.out]; exact HM.out
                    case rel => exact ⟨A5, c5, b4 / 2, rfl, Hd rfl, HN⟩
                  · have ho4 : b4 % 2 = 1 := by omega
                    have C1 := Hd (ref_even_n A4 c4 b4 HR4.out.1.pb wr HR4.out.1.rb false (by simp [ho4]))
                    have C2 := Hd (ref_cmp_any A3 A4 c3 c4 (natL a3) (natL b4) (canon_natL _) (canon_natL _) wr HR4.out.1.ra HR4.out.1.rb)
                    have HO4 := Hd ho4
                    clear hb2 ho4
                    go_wp2_with (first | (go_at_call 228; ((with_reducible refine C1.out.mono ?_); rintro e w' ⟨rfl, rfl⟩)))
                    refine C2.out.mono ?_
                    rintro e w1 ⟨rfl, hb1⟩
                    obtain ⟨z, hze⟩ : ∃ z, z = cmpv (val (natL a3)) (val (natL b4)) := ⟨_, rfl⟩
                    rw [← hze]
                    have hz2 : a3 < b4 ↔ z < 0 := by
                      rw [hze, val_natL, val_natL]
                      unfold cmpv
                      split <;> (try split) <;> omega
                    have RA := Hd (HR4.out.1.ra.below hb1)
                    have RB := Hd (HR4.out.1.rb.below hb1)
                    have HL := Hd (belowTo HR4.out.1.low hb1)
                    have HW := Hd (belowTo HR4.out.2.2 hb1)
                    have hp4 := HR4.out.1.pb
                    have hl3' := HR4.out.1.la
                    have hle3 := HR3.out.2.2.1
                    have hle4 := HR4.out.2.1
                    have hpo3 := HR3.out.2.1
                    have HGC := Hd HR4.out.1.gcd
                    clear hze C1 C2 hb1
                    by_cases hlt : a3 < b4
                    · have hd : decide (z < 0) = true := by simp; omega
                      have C3 := ref_subN A4 A3 c4 c3 (natL b4) (natL a3) (natL_mono (Nat.le_of_lt hlt)) (by rw [val_natL, val_natL]; omega) (by omega) w1 RB.out RA.out
                      rw [val_natL, val_natL] at C3
                      have H3 := Hd C3
                      have HLT := Hd hlt
                      clear hz2 C3 hlt
                      go_wp2_with fail
                      refine H3.out.mono ?_
                      rintro e w2 ⟨v2, rfl, hv2, hb2⟩
                      obtain ⟨A6, c6, rfl, r6⟩ := hv2.raw
                      have hlt := HLT.out
                      have HN := Hd (show Cm2 w w2 g A6 c6 (b4 - a3) A3 c3 a3 30000 ∧ Below W.heap.size W w2 from ⟨⟨r6, RA.out.below hb2, belowTo HL.out hb2, hpo3, .inr HO3.out, by rw [gcd_less (Nat.le_of_lt hlt), Nat.gcd_comm]; exact HGC.out, Nat.le_trans (natL_mono (Nat.sub_le _ _)) hl4, hl3'⟩, belowTo HW.out hb2⟩)
                      have HM := Hd (show b4 - a3 + a3 < a + b by omega)
                      clear hv2 hb2 r6 H3 hlt
                      go_wp2_with fail
                      go_roundg (b4 - a3 + a3)
                      case measure => rw [HKA.out]; exact HM.out
                      case rel => exact ⟨A6, c6, b4 - a3, A3, c3, a3, rfl, rfl, Hd rfl, HN⟩
                    · have hd : decide (z < 0) = false := by simp; omega
                      have C3 := ref_subN A3 A4 c3 c4 (natL a3) (natL b4) (natL_mono (by omega)) (by rw [val_natL, val_natL]; omega) (by omega) w1 RA.out RB.out
                      rw [val_natL, val_natL] at C3
                      have H3 := Hd C3
                      have HLT := Hd hlt
                      clear hz2 C3 hlt
                      go_wp2_with fail
                      refine H3.out.mono ?_
                      rintro e w2 ⟨v2, rfl, hv2, hb2⟩
                      obtain ⟨A6, c6, rfl, r6⟩ := hv2.raw
                      have hlt := HLT.out
                      have HN := Hd (show Cm2 w w2 g A6 c6 (a3 - b4) A4 c4 b4 30000 ∧ Below W.heap.size W w2 from ⟨⟨r6, RB.out.below hb2, belowTo HL.out hb2, hp4, .inr HO4.out, by rw [gcd_less (by omega)]; exact HGC.out, Nat.le_trans (natL_mono (Nat.sub_le _ _)) hl3', hl4⟩, belowTo HW.out hb2⟩)
                      have HM := Hd (show a3 - b4 + b4 < a + b by omega)
                      clear hv2 hb2 r6 H3 hlt
                      go_wp2_with fail
                      go_roundg (a3 - b4 + b4)
                      case measure => rw [HKA.out]; exact HM.out
                      case rel => exact ⟨A6, c6, a3 - b4, A4, c4, b4, rfl, rfl, Hd rfl, HN⟩
/- Common of package exact: the greatest number that goes into both. -/

theorem exact_Common (n1 n2 : Bool) (A B : Option Addr) (c d : Nat) (xs ys : List Nat) (hlx : xs.length ≤ 536870912) (hly : ys.length ≤ 536870912) (w : World) (h : Raw w A c xs) (g : Raw w B d ys) :
    Calls Tryz.prog 170 #[.agg #[.bool n1, .slice A xs.length c], .agg #[.bool n2, .slice B ys.length d]] w (RetInt w.heap.size w ((Nat.gcd (val xs) (val ys) : Nat) : Int)) := by
  have px := ((Pair.new w 24 (.bool n1) (.slice A xs.length c)).alloc (.cells #[.bool n2, .slice B ys.length d] 24)).alloc (.cells #[.bool false, .slice none 0 0] 24)
  have py := (Pair.new (w.alloc (.cells #[.bool n1, .slice A xs.length c] 24)) 24 (.bool n2) (.slice B ys.length d)).alloc (.cells #[.bool false, .slice none 0 0] 24)
  have pr := Pair.new ((w.alloc (.cells #[.bool n1, .slice A xs.length c] 24)).alloc (.cells #[.bool n2, .slice B ys.length d] 24)) 24 (.bool false) (.slice none 0 0)
  have rx := (((h.alloc (.cells #[.bool n1, .slice A xs.length c] 24)).alloc (.cells #[.bool n2, .slice B ys.length d] 24)).alloc (.cells #[.bool false, .slice none 0 0] 24))
  have ry := (((g.alloc (.cells #[.bool n1, .slice A xs.length c] 24)).alloc (.cells #[.bool n2, .slice B ys.length d] 24)).alloc (.cells #[.bool false, .slice none 0 0] 24))
  have b0 := (((Below.refl w.heap.size w).alloc (Nat.le_refl _) (.cells #[.bool n1, .slice A xs.length c] 24)).alloc (by simp) (.cells #[.bool n2, .slice B ys.length d] 24)).alloc (by simp; omega) (.cells #[.bool false, .slice none 0 0] 24)
  simp only [World.size_alloc] at py pr
  have HLX := Hd h.limbs
  have HLY := Hd g.limbs
  clear h g
  go_enter Tryz.func170, Tryz.ntmps170
  go_wp2_with fail
  obtain ⟨W, E⟩ : ∃ W, W = ((w.alloc (.cells #[.bool n1, .slice A xs.length c] 24)).alloc (.cells #[.bool n2, .slice B ys.length d] 24)).alloc (.cells #[.bool false, .slice none 0 0] 24) := ⟨_, rfl⟩
  rw [← E] at px py pr b0 rx ry ⊢
  have hszW : w.heap.size + 3 ≤ W.heap.size := by rw [E]; simp
  clear E
  have PX := Hd px
  have PY := Hd py
  have PR := Hd pr
  have B0 := Hd b0
  have H1 := Hd (fun (V : World) (hV : Below W.heap.size W V) => (exact_own false A c xs (by omega) V (rx.below hV)).mono (R' := RetInt w.heap.size V ((val xs : Nat) : Int)) (by rintro e w' ⟨v, rfl, hv, hb⟩; exact ⟨v, rfl, hv.base (by have := hV.size; omega), hb⟩))
  have H2 := Hd (fun (V : World) (hV : Below W.heap.size W V) => (exact_own false B d ys (by omega) V (ry.below hV)).mono (R' := RetInt w.heap.size V ((val ys : Nat) : Int)) (by rintro e w' ⟨v, rfl, hv, hb⟩; exact ⟨v, rfl, hv.base (by have := hV.size; omega), hb⟩))
  obtain ⟨X, hX⟩ : ∃ X, X = val xs := ⟨_, rfl⟩
  obtain ⟨Y, hY⟩ : ∃ Y, Y = val ys := ⟨_, rfl⟩
  rw [← hX] at H1
  rw [← hY] at H2
  have HLx := Hd (show (natL X).length ≤ 536870912 by rw [hX]; exact Nat.le_trans (natL_val_le HLX.out) hlx)
  have HLy := Hd (show (natL Y).length ≤ 536870912 by rw [hY]; exact Nat.le_trans (natL_val_le HLY.out) hly)
  have HXY := Hd (And.intro hX hY)
  clear px py pr rx ry b0 HLX HLY hX hY
  refine wp_region_free [.val (.pointer (some ⟨w.heap.size, 1, none⟩)) [], .val (.slice A xs.length c) [], .any false (fun u V => IntOwn V w.heap.size u (X : Int)) [],
      .val (.pointer (some ⟨w.heap.size + 1, 1, none⟩)) [], .val (.slice B ys.length d) [], .any false (fun u V => IntOwn V w.heap.size u (Y : Int)) [], .new 24 2, .new 24 2, .put 24 2 6 2 [], .put 24 2 7 5 []]
    W.heap.size W [24] (fun _ _ => False) _ mixedOrders2 (Nat.le_refl _) (Below.refl _ _) (KeptV.refl _ _ _) rfl (by kernel_rfl) (by kernel_rfl) (by kernel_rfl) (by kernel_rfl) (by kernel_rfl) (by kernel_rfl) (by kernel_rfl) (by kernel_rfl) rfl (by simp [oldsF]) ?_ ?_ ?_ ?_
  · simp only [StableF, and_true]
    exact ⟨fun u V V' h k => h.kept k (by decide), fun u V V' h k => h.kept k (by decide)⟩
  · simp only [OldsF]
  · simp [StepsF, DepF, freeAct, fill, pairs]
    repeat' (first | apply And.intro | (intro (u : Value)) | (intro (u : Nat)))
    all_goals try exact ⟨_, _, _, rfl, rfl, rfl, rfl, intInfo⟩
    all_goals try exact allocInt rfl
    all_goals first
    | (intro V hV hK
       obtain ⟨-, -, a1, -, -⟩ := (PX.out.below hV).facts
       obtain ⟨-, -, b1, -, -⟩ := (PY.out.below hV).facts
       have HV := Hd hV
       clear hV
       go_simp
       first
       | exact Below.refl _ _
       | ((with_reducible refine (H1.out V HV.out).mono ?_); rintro e w' ⟨v, rfl, hv, hb⟩; exact ⟨hv, hb⟩)
       | ((with_reducible refine (H2.out V HV.out).mono ?_); rintro e w' ⟨v, rfl, hv, hb⟩; exact ⟨hv, hb⟩))
    | exact fun _ _ _ (h : IntOwn _ _ _ _) => h.cells
  · simp [EndF, FactsF, freeAct, fill, pairs]
    intro u v ba hba bb hbb V hV hK h1 h2 p1 p2 _ _ hne
    have hne2 : ba ≠ bb := by
      intro e
      subst e
      exact hne.new 6 7 rfl rfl (by decide) rfl
    obtain ⟨A1, c1, rfl, o1⟩ := h1.nat
    obtain ⟨A2, c2, rfl, o2⟩ := h2.nat
    have HH := Hd (show Held2 w V ba bb A1 c1 X A2 c2 Y from ⟨⟨p1⟩, ⟨p2⟩, o1, o2, belowTo B0.out hV, by omega, by omega, hne2, PR.out.below hV⟩)
    clear h1 h2 p1 p2 hne hne2 o1 o2 hV hK hba hbb
    go_wp2_with fail
    go_loopg [] (Y) (fun k wr => ∃ A1 c1 x A2 c2, Hid (Held2 w wr ba bb A1 c1 x A2 c2 k ∧ Nat.gcd x k = Nat.gcd X Y ∧ (natL x).length ≤ 536870912 ∧ (natL k).length ≤ 536870912))
    case atStart => exact ⟨A1, c1, X, A2, c2, Hd ⟨HH.out, rfl, HLx.out, HLy.out⟩⟩
    case round =>
      clear HH
      obtain ⟨A1, c1, x, A2, c2, HR⟩ := hrel
      obtain ⟨hh, hg, hl1, hl2⟩ := HR.out
      have HG := Hd hg
      have HH := Hd hh
      obtain ⟨l1, a0, a1, f0, f1⟩ := hh.pa.facts
      obtain ⟨l2, b0, b1, g0, g1⟩ := hh.pb.facts
      clear HR hh hg
      rcases Nat.eq_zero_or_pos gk with hk | hk
      · subst hk
        have hln : (natL 0).length = 0 := by simp [natL_zero]
        rw [hln] at b1
        have hone := HH.out.one
        have hlow := HH.out.low
        have hxg : x = Nat.gcd X Y := by rw [← HG.out, Nat.gcd_zero_right]
        have hres := HH.out.res
        obtain ⟨l3, q0, q1, r0, r1⟩ := hres.facts
        have HO := Hd (hone.pair hres (.bool false) (.slice A1 (natL x).length c1))
        have HB := Hd (below2 hlow (show w.heap.size ≤ w.heap.size + 2 by omega) (.bool false) (.slice A1 (natL x).length c1))
        have HQ := Hd (hres.store (.bool false) (.slice A1 (natL x).length c1))
        have hfin : IntOwn ((wr.setCell ⟨w.heap.size + 2, 0, none⟩ (.bool false)).setCell ⟨w.heap.size + 2, 1, none⟩ (.slice A1 (natL x).length c1)) w.heap.size (.agg #[.bool false, .slice A1 (natL x).length c1]) ((Nat.gcd (val xs) (val ys) : Nat) : Int) := by
          rw [← HXY.out.1, ← HXY.out.2, ← hxg]; exact HO.out.int
        have HF := Hd hfin
        clear hln hone hlow hxg hres HH HG hfin HO
        go_wp2_with fail
        obtain ⟨_, k0, k1, _, _⟩ := HQ.out.facts
        exact bodyPost_ret (by simp [results, Tryz.results170, go_sem, k0, k1]) rfl ⟨_, rfl, HF.out, HB.out⟩
      · have hlk : (0 : Int) < ((natL gk).length : Int) := by
          have : (natL gk).length ≠ 0 := fun h0 => by
            have := natL_eq_nil.1 (List.eq_nil_of_length_eq_zero h0)
            omega
          omega
        have hne : natL gk ≠ [] := fun h0 => by rw [h0] at hlk; simp at hlk
        have C1 := Hd (exact_Divide false false A1 A2 c1 c2 (natL x) (natL gk) (canon_natL _) (canon_natL _) hne (by omega) (by omega) wr HH.out.one.raw_ HH.out.two.raw_)
        go_wp2_with fail
        refine C1.out.mono ?_
        rintro e w1 ⟨v1, v2, rfl, hI, hb⟩
        have hz : (ival false (natL x)).tmod (ival false (natL gk)) = ((x % gk : Nat) : Int) := by
          unfold ival
          simp only [val_natL, Bool.false_eq_true, if_false]
          rw [Int.ofNat_tmod]
        obtain ⟨b9, A9, k9, c9, rfl⟩ := hI.one.shape
        have hI2 := hI.two
        rw [hz] at hI2
        obtain ⟨A3, c3, rfl, o3⟩ := hI2.nat
        have HA := Hd (HH.out.pa.below hb)
        have HBb := Hd (HH.out.pb.below hb)
        have HRs := Hd (HH.out.res.below hb)
        have HO2 := Hd (HH.out.two.below hb)
        have HO3 := Hd (o3.base (b' := w.heap.size) HH.out.low.size)
        have HLo := Hd (belowTo HH.out.low hb)
        have hs1 := HA.out.size
        have hs2 := HBb.out.size
        clear hz hI hI2 o3 hb l1 a0 a1 f0 f1 l2 b0 b1 g0 g1 C1
        go_wp2_with fail
        obtain ⟨W2, E2⟩ : ∃ W2, W2 = (w1.alloc (.cells #[.bool b9, .slice A9 k9 c9] 24)).alloc (.cells #[.bool false, .slice A3 (natL (x % gk)).length c3] 24) := ⟨_, rfl⟩
        have hp8 := Pair.new (w1.alloc (.cells #[.bool b9, .slice A9 k9 c9] 24)) 24 (.bool false) (.slice A3 (natL (x % gk)).length c3)
        have hb2 := ((Below.refl w1.heap.size w1).alloc (Nat.le_refl _) (.cells #[.bool b9, .slice A9 k9 c9] 24)).alloc (by simp) (.cells #[.bool false, .slice A3 (natL (x % gk)).length c3] 24)
        rw [← E2] at hp8 hb2 ⊢
        simp only [World.size_alloc] at hp8
        clear E2
        have pa := HA.out.below hb2
        have pb := HBb.out.below hb2
        have o2 := HO2.out.below hb2
        have o3 := HO3.out.below hb2
        have hlw := HLo.out.size
        have hn8 : bb ≠ w1.heap.size + 1 := by omega
        have hn8a : ba ≠ w1.heap.size + 1 := by omega
        have ne := HH.out.ne
        have HN := Hd (show Held2 w ((((W2.setCell ⟨ba, 0, none⟩ (.bool false)).setCell ⟨ba, 1, none⟩ (.slice A2 (natL gk).length c2)).setCell ⟨bb, 0, none⟩ (.bool false)).setCell ⟨bb, 1, none⟩ (.slice A3 (natL (x % gk)).length c3)) ba bb A2 c2 gk A3 c3 (x % gk) from
          ⟨(pa.store _ _).far ne _ _, (pb.far (Ne.symm ne) _ _).store _ _, (o2.pair pa _ _).pair (pb.far (Ne.symm ne) _ _) _ _, (o3.pair pa _ _).pair (pb.far (Ne.symm ne) _ _) _ _,
            below2 (below2 (belowTo HLo.out hb2) (by have := HH.out.la; omega) _ _) (by have := HH.out.lb; omega) _ _, HH.out.la, HH.out.lb, ne,
            (((HRs.out.below hb2).far (by have := HH.out.la; omega) _ _).far (by have := HH.out.lb; omega) _ _)⟩)
        have hgc : Nat.gcd gk (x % gk) = Nat.gcd X Y := by
          rw [← HG.out, Nat.gcd_comm x gk, Nat.gcd_rec gk x, Nat.gcd_comm]
        have hln : (natL (x % gk)).length ≤ 536870912 := Nat.le_trans (natL_mono (Nat.le_of_lt (Nat.mod_lt _ hk))) hl2
        have HGC := Hd (And.intro hgc hln)
        have HM := Hd (Nat.mod_lt x hk)
        obtain ⟨m1, a0, a1, f0, f1⟩ := pa.facts
        obtain ⟨m2, b0, b1, g0, g1⟩ := pb.facts
        obtain ⟨m3, d0, d1, -, -⟩ := hp8.facts
        clear pa pb hp8 o2 o3 hgc hln hb2 HA HBb HRs HO2 HO3 HLo HG HH hlw
        go_region
        all_goals (go_wp2_with fail)
        all_goals (go_roundg (x % gk))
        case measure => exact HM.out
        case rel => exact ⟨A2, c2, gk, A3, c3, Hd ⟨HN.out.drew, HGC.out.1, hl2, HGC.out.2⟩⟩
/- QuoRem and GCD of package whole and of the references. (Written by wip/exact/gendivops.py.) -/

theorem ref_Common_left (n1 n2 : Bool) (A B : Option Addr) (c d : Nat) (xs ys : List Nat) (he : xs = []) (w : World) (h : Raw w A c xs) (g : Raw w B d ys) :
    Calls Tryz.prog 212 #[.agg #[.bool n1, .slice A xs.length c], .agg #[.bool n2, .slice B ys.length d]] w fun e w' => e = .returned (sv false B d ys) ∧ Below w.heap.size w w' := by
  have hl1 : ((xs.length : Int) == 0) = true := by subst he; rfl
  have C1 := Hd (fun (V : World) (h : Raw V B d ys) => ref_signed_sv false B d ys V h)
  obtain ⟨b9, A9, k9, c9, hsv⟩ := sv_form false B d ys
  rw [hsv] at C1 ⊢
  clear he hsv
  have px := (((Pair.new w 24 (.bool n1) (.slice A xs.length c)).alloc (.cells #[.bool n2, .slice B ys.length d] 24)).alloc (.cells #[.bool false, .slice none 0 0] 24))
  have py := ((Pair.new (w.alloc (.cells #[.bool n1, .slice A xs.length c] 24)) 24 (.bool n2) (.slice B ys.length d)).alloc (.cells #[.bool false, .slice none 0 0] 24))
  have pq := (Pair.new ((w.alloc (.cells #[.bool n1, .slice A xs.length c] 24)).alloc (.cells #[.bool n2, .slice B ys.length d] 24)) 24 (.bool false) (.slice none 0 0))
  have rx := (((h.alloc (.cells #[.bool n1, .slice A xs.length c] 24)).alloc (.cells #[.bool n2, .slice B ys.length d] 24)).alloc (.cells #[.bool false, .slice none 0 0] 24))
  have ry := (((g.alloc (.cells #[.bool n1, .slice A xs.length c] 24)).alloc (.cells #[.bool n2, .slice B ys.length d] 24)).alloc (.cells #[.bool false, .slice none 0 0] 24))
  have b0 := (((Below.refl w.heap.size w).alloc (Nat.le_refl _) (.cells #[.bool n1, .slice A xs.length c] 24)).alloc (by simp) (.cells #[.bool n2, .slice B ys.length d] 24)).alloc (by simp; omega) (.cells #[.bool false, .slice none 0 0] 24)
  simp only [World.size_alloc] at py pq
  clear h g
  go_enter Tryz.func212, Tryz.ntmps212
  go_wp2_with fail
  obtain ⟨W, E⟩ : ∃ W, W = (((w.alloc (.cells #[.bool n1, .slice A xs.length c] 24)).alloc (.cells #[.bool n2, .slice B ys.length d] 24)).alloc (.cells #[.bool false, .slice none 0 0] 24)) := ⟨_, rfl⟩
  rw [← E] at px py pq b0 rx ry ⊢
  have hsz : W.heap.size = w.heap.size + 3 := by rw [E]; simp
  clear E
  have PX := Hd px
  have PY := Hd py
  have PQ := Hd pq
  have B0 := Hd b0
  have RX := Hd rx
  have RY := Hd ry
  obtain ⟨l1, x0, x1, -, -⟩ := px.facts
  obtain ⟨l2, y0, y1, -, -⟩ := py.facts
  clear px py pq rx ry b0
  go_wp2_with fail
  refine (C1.out W RY.out).mono ?_
  rintro e w1 ⟨rfl, hb⟩
  have pq := PQ.out.below hb
  obtain ⟨l3, q0, q1, f0, f1⟩ := pq.facts
  have hq := pq.store (.bool b9) (.slice A9 k9 c9)
  have HB := Hd (below2 (belowTo B0.out hb) (show w.heap.size ≤ w.heap.size + 1 + 1 by omega) (.bool b9) (.slice A9 k9 c9))
  have HQ := Hd hq
  clear pq hq hb C1 PX PY RX RY
  go_wp2_with fail
  obtain ⟨_, k0, k1, _, _⟩ := HQ.out.facts
  exact bodyPost_ret (by simp [results, Tryz.results212, go_sem, k0, k1]) rfl ⟨rfl, HB.out⟩

theorem ref_Common_right (n1 n2 : Bool) (A B : Option Addr) (c d : Nat) (xs ys : List Nat) (hne : xs ≠ []) (he : ys = []) (w : World) (h : Raw w A c xs) (g : Raw w B d ys) :
    Calls Tryz.prog 212 #[.agg #[.bool n1, .slice A xs.length c], .agg #[.bool n2, .slice B ys.length d]] w fun e w' => e = .returned (sv false A c xs) ∧ Below w.heap.size w w' := by
  have hl1 : ((xs.length : Int) == 0) = false := by have : xs.length ≠ 0 := fun e => hne (List.eq_nil_of_length_eq_zero e); simp; omega
  have hl2 : ((ys.length : Int) == 0) = true := by subst he; rfl
  have C1 := Hd (fun (V : World) (h : Raw V A c xs) => ref_signed_sv false A c xs V h)
  obtain ⟨b9, A9, k9, c9, hsv⟩ := sv_form false A c xs
  rw [hsv] at C1 ⊢
  clear he hsv hne
  have px := (((Pair.new w 24 (.bool n1) (.slice A xs.length c)).alloc (.cells #[.bool n2, .slice B ys.length d] 24)).alloc (.cells #[.bool false, .slice none 0 0] 24))
  have py := ((Pair.new (w.alloc (.cells #[.bool n1, .slice A xs.length c] 24)) 24 (.bool n2) (.slice B ys.length d)).alloc (.cells #[.bool false, .slice none 0 0] 24))
  have pq := (Pair.new ((w.alloc (.cells #[.bool n1, .slice A xs.length c] 24)).alloc (.cells #[.bool n2, .slice B ys.length d] 24)) 24 (.bool false) (.slice none 0 0))
  have rx := (((h.alloc (.cells #[.bool n1, .slice A xs.length c] 24)).alloc (.cells #[.bool n2, .slice B ys.length d] 24)).alloc (.cells #[.bool false, .slice none 0 0] 24))
  have ry := (((g.alloc (.cells #[.bool n1, .slice A xs.length c] 24)).alloc (.cells #[.bool n2, .slice B ys.length d] 24)).alloc (.cells #[.bool false, .slice none 0 0] 24))
  have b0 := (((Below.refl w.heap.size w).alloc (Nat.le_refl _) (.cells #[.bool n1, .slice A xs.length c] 24)).alloc (by simp) (.cells #[.bool n2, .slice B ys.length d] 24)).alloc (by simp; omega) (.cells #[.bool false, .slice none 0 0] 24)
  simp only [World.size_alloc] at py pq
  clear h g
  go_enter Tryz.func212, Tryz.ntmps212
  go_wp2_with fail
  obtain ⟨W, E⟩ : ∃ W, W = (((w.alloc (.cells #[.bool n1, .slice A xs.length c] 24)).alloc (.cells #[.bool n2, .slice B ys.length d] 24)).alloc (.cells #[.bool false, .slice none 0 0] 24)) := ⟨_, rfl⟩
  rw [← E] at px py pq b0 rx ry ⊢
  have hsz : W.heap.size = w.heap.size + 3 := by rw [E]; simp
  clear E
  have PX := Hd px
  have PY := Hd py
  have PQ := Hd pq
  have B0 := Hd b0
  have RX := Hd rx
  have RY := Hd ry
  obtain ⟨l1, x0, x1, -, -⟩ := px.facts
  obtain ⟨l2, y0, y1, -, -⟩ := py.facts
  clear px py pq rx ry b0
  go_wp2_with fail
  refine (C1.out W RX.out).mono ?_
  rintro e w1 ⟨rfl, hb⟩
  have pq := PQ.out.below hb
  obtain ⟨l3, q0, q1, f0, f1⟩ := pq.facts
  have hq := pq.store (.bool b9) (.slice A9 k9 c9)
  have HB := Hd (below2 (belowTo B0.out hb) (show w.heap.size ≤ w.heap.size + 1 + 1 by omega) (.bool b9) (.slice A9 k9 c9))
  have HQ := Hd hq
  clear pq hq hb C1 PX PY RX RY
  go_wp2_with fail
  obtain ⟨_, k0, k1, _, _⟩ := HQ.out.facts
  exact bodyPost_ret (by simp [results, Tryz.results212, go_sem, k0, k1]) rfl ⟨rfl, HB.out⟩

theorem ref_Common (n1 n2 : Bool) (A B : Option Addr) (c d : Nat) (xs ys : List Nat) (hcx : Canon xs) (hcy : Canon ys) (hlx : xs.length ≤ 30000) (hly : ys.length ≤ 30000) (w : World) (h : Raw w A c xs) (g : Raw w B d ys) :
    Calls Tryz.prog 212 #[.agg #[.bool n1, .slice A xs.length c], .agg #[.bool n2, .slice B ys.length d]] w (RetOf A B c d xs ys w ((Nat.gcd (val xs) (val ys) : Nat) : Int)) := by
  by_cases hx : xs = []
  · refine (ref_Common_left n1 n2 A B c d xs ys hx w h g).mono ?_
    rintro e w' ⟨rfl, hb⟩
    exact ⟨_, rfl, .inr (.inr ⟨rfl, by subst hx; simp [val, ival]⟩), hb⟩
  · by_cases hy : ys = []
    · refine (ref_Common_right n1 n2 A B c d xs ys hx hy w h g).mono ?_
      rintro e w' ⟨rfl, hb⟩
      exact ⟨_, rfl, .inr (.inl ⟨rfl, by subst hy; simp [val, ival]⟩), hb⟩
    · refine (ref_Common_more n1 n2 A B c d xs ys hcx hcy hx hy hlx hly w h g).mono ?_
      rintro e w' ⟨v, rfl, hv, hb⟩
      exact ⟨v, rfl, .inl hv, hb⟩

end Go.Proofs.YtkncbenhfcpgkaaGreatDoor
