/- Int64 of the references: all of it. -/
import Derived.Test.YtpcdiijmhllejaaRefInt64
import Derived.Test.YtpcdiijmhllejaaInt64
namespace Go.Proofs.Ytpcdiijmhllejaa
open Go.RowKit

theorem val_step {xs : List Nat} {k : Nat} (hk : k < xs.length) : val (xs.drop k) = xs[k] + 4294967296 * val (xs.drop (k + 1)) := by
  rw [List.drop_eq_getElem_cons hk, val]
theorem val_drop_le (xs : List Nat) (k : Nat) : val (xs.drop k) ≤ val xs := by
  have h := val_append (xs.take k) (xs.drop k)
  rw [List.take_append_drop] at h
  have := Nat.mul_le_mul_right (val (xs.drop k)) (Nat.one_le_pow (xs.take k).length 4294967296 (by omega))
  omega
theorem ival_lim (neg : Bool) (xs : List Nat) (hlo : -9223372036854775808 ≤ ival neg xs) (hhi : ival neg xs ≤ 9223372036854775807) : val xs < 18446744073709551616 := by
  unfold ival at hlo hhi
  cases neg <;> simp at hlo hhi <;> omega
theorem neg_turned (z : Int) (h0 : 0 ≤ z) (h1 : z ≤ 9223372036854775808) : -z = wrap64 (IntKind.u64.wrap (-z)) := by
  simp only [IntKind.wrap, wrap64, IntKind.bits, IntKind.signed]
  simp
  omega

set_option maxRecDepth 100000 in
set_option maxHeartbeats 2000000 in
theorem ref_Int64_mid (neg : Bool) (A : Option Addr) (c : Nat) (xs : List Nat) (hok : okI neg xs = true) (hlo : -9223372036854775808 ≤ ival neg xs) (hhi : ival neg xs ≤ 9223372036854775807) (w : World) (h : Raw w A c xs) :
    Calls Try.prog 17 #[.agg #[.bool neg, .slice A xs.length c]] w fun e w' => e = .returned (.tuple #[.int .i64 (ival neg xs), .bool true]) ∧ Below w.heap.size w w' := by
  have hx := h.alloc (.cells #[.bool neg, .slice A xs.length c] 24)
  have p0 := Pair.new w 24 (.bool neg) (.slice A xs.length c)
  have b0 := (Below.refl w.heap.size w).alloc (Nat.le_refl _) (.cells #[.bool neg, .slice A xs.length c] 24)
  have e1 : errI neg xs = 0 := by simp [errI, hok]
  have HOK := Lib.hid hok
  have Z1 := Lib.hid (cmpz_up hlo)
  have Z2 := Lib.hid (cmpz_down hhi)
  have VL := Lib.hid (ival_lim neg xs hlo hhi)
  clear h hok
  go_enter Try.func17, Try.ntmps17
  go_wp2_with fail
  obtain ⟨W, E⟩ : ∃ W, W = w.alloc (.cells #[.bool neg, .slice A xs.length c] 24) := ⟨_, rfl⟩
  rw [← E] at hx p0 b0 ⊢
  clear E
  have D1 := fun (V : World) (hV : Below W.heap.size W V) => ref_Check_any neg A c xs V (hx.below hV)
  rw [e1] at D1
  have H1 := Lib.hid D1
  have H2 := Lib.hid (fun V => ref_Of_open (-9223372036854775808) (by omega) (by omega) V)
  have H3 := Lib.hid (fun V => ref_Of_open 9223372036854775807 (by omega) (by omega) V)
  have HX := Lib.hid hx
  obtain ⟨l1, c0, c1, -, -⟩ := p0.facts
  have P0 := Lib.hid p0
  clear D1 hx p0 e1
  go_region_held3 (fun w' => Below W.heap.size W w' ∧ ∀ b o, b < W.heap.size → w'.cell? ⟨b, o, none⟩ = W.cell? ⟨b, o, none⟩)
    (first
      | exact ⟨(Below.refl _ _).drew, fun _ _ _ => rfl⟩
      | (obtain ⟨q, _⟩ := ‹Below W.heap.size W _ ∧ _›; have q' := belowTo q hbx; exact ⟨q', fun b o h => q'.cell (p := ⟨b, o, none⟩) h⟩))
    (first
      | (go_at_call 18; with_reducible refine (H1.out _ ?_).mono ?_; exact (‹Below W.heap.size W _ ∧ _›).1; rintro e wx ⟨rfl, hbx⟩)
      | (go_at_call 6; with_reducible refine (H2.out _).mono ?_; rintro e wx ⟨B, d, ys, n2, rfl, hR, hokR, hvR, hbx⟩; have HO := Lib.hid hokR; have HV := Lib.hid hvR; clear hokR hvR)
      | (go_at_call 6; with_reducible refine (H3.out _).mono ?_; rintro e wx ⟨B2, d2, ys2, n3, rfl, hR2, hokR, hvR, hbx⟩; have HO2 := Lib.hid hokR; have HV2 := Lib.hid hvR; clear hokR hvR)
      | (go_at_call 29; with_reducible refine (ref_Cmp_any neg n2 A B c d xs ys HOK.out HO.out _ ?_ hR).mono ?_; exact HX.out.below (‹Below W.heap.size W _ ∧ _›).1; rintro e wx ⟨rfl, hbx⟩; rw [HV.out]; have z1 := Z1.out; generalize cmpz (ival neg xs) (-9223372036854775808) = k1 at z1 ⊢; have zb1 : decide (k1 < 0) = false := by (simp; omega))
      | (go_at_call 29; with_reducible refine (ref_Cmp_any neg n3 A B2 c d2 xs ys2 HOK.out HO2.out _ ?_ hR2).mono ?_; exact HX.out.below (‹Below W.heap.size W _ ∧ _›).1; rintro e wx ⟨rfl, hbx⟩; rw [HV2.out]; have z2 := Z2.out; generalize cmpz (ival neg xs) 9223372036854775807 = k2 at z2 ⊢; have zb2 : decide (0 < k2) = false := by (simp; omega)))
  obtain ⟨q, qc⟩ := ‹Below W.heap.size W _ ∧ _›
  have hR := HX.out.below q
  have hm := hR.most
  have hcp := hR.cap
  have hlt : w.heap.size < wx.heap.size := Nat.lt_of_lt_of_le l1 q.size
  have HR := Lib.hid hR
  clear hR
  go_wp2_with fail
  go_loopw [4, 5] (fun n i wr => ∃ k m : Nat, n = .int .u64 (val (xs.drop k) : Nat) ∧ i = .int .i64 ((k : Int) - 1) ∧ k ≤ xs.length ∧ wr = wx.drewN m) (fun _ i _ => (intOf i + 1).toNat)
  case atStart => exact ⟨xs.length, 0, by rw [List.drop_length]; rfl, by go_num, Nat.le_refl _, rfl⟩
  case round =>
    obtain ⟨k, m, rfl, rfl, hk, rfl⟩ := hrel
    have b1 := b0.trans ((below_drewN q m).mono b0.size)
    cases k with
    | zero =>
      rw [List.drop_zero]
      have hv : ival neg xs = if neg then -(val xs : Int) else val xs := rfl
      obtain ⟨z, hz⟩ : ∃ z : Int, z = (val xs : Int) := ⟨_, rfl⟩
      have hz0 : 0 ≤ z := by omega
      rw [← hz] at hv ⊢
      rw [hv] at hlo hhi
      have HF := Lib.hid hv
      clear hz hv
      cases neg
      · have hi : z ≤ 9223372036854775807 := by simpa using hhi
        clear hlo hhi
        go_wp2
        go_ret2
        exact ⟨by rw [HF.out]; rfl, b1⟩
      · have hi : z ≤ 9223372036854775808 := by simp at hlo; omega
        have fin : ival true xs = wrap64 (IntKind.u64.wrap (-z)) := by rw [HF.out, if_pos rfl]; exact neg_turned z hz0 hi
        have HG := Lib.hid fin
        clear hlo hhi fin
        go_wp2
        go_ret2
        exact ⟨by rw [HG.out]; rfl, b1⟩
    | succ k =>
      have hk' : k < xs.length := by omega
      obtain ⟨ad, rfl, hbl, hcell⟩ := HR.out.reads.get hk'
      have a0 : (0 : Int) ≤ (k : Int) := by omega
      have a1 : (k : Int) < (xs.length : Int) := by omega
      have ae : ((k + 1 : Nat) : Int) - 1 = (k : Int) := by omega
      rw [ae]
      have hs := val_step hk'
      have hlim : val (xs.drop k) < 18446744073709551616 := Nat.lt_of_le_of_lt (val_drop_le xs k) VL.out
      rw [hs] at hlim
      generalize hz : xs[k] = z at hcell hs hlim
      generalize hv : val (xs.drop (k + 1)) = v at hs hlim
      have HS := Lib.hid hs
      clear hz hv hs ae
      go_wp2_with fail
      refine ⟨⟨k, m, ?_, rfl, by omega, rfl⟩, by simp [intOf]⟩
      rw [HS.out]
      exact congrArg _ (by omega)
theorem i64_ival (neg : Bool) (xs : List Nat) : i64V neg (val xs) = (if -9223372036854775808 ≤ ival neg xs ∧ ival neg xs ≤ 9223372036854775807 then ival neg xs else 0) ∧ i64B neg (val xs) = decide (-9223372036854775808 ≤ ival neg xs ∧ ival neg xs ≤ 9223372036854775807) := by
  unfold i64V i64B ival
  generalize val xs = v
  cases neg
  · simp only [Bool.false_eq_true, if_false]
    by_cases h : v < 9223372036854775808
    · rw [if_pos h, if_pos (by omega)]; simp; omega
    · rw [if_neg h, if_neg (by omega)]; simp; omega
  · simp only [if_true]
    by_cases h : v ≤ 9223372036854775808
    · rw [if_pos h, if_pos (by omega)]; simp; omega
    · rw [if_neg h, if_neg (by omega)]; simp; omega
theorem ref_Int64_any (neg : Bool) (A : Option Addr) (c : Nat) (xs : List Nat) (w : World) (h : Raw w A c xs) :
    Calls Try.prog 17 #[.agg #[.bool neg, .slice A xs.length c]] w fun e w' => e = .returned (.tuple #[.int .i64 (if okI neg xs then i64V neg (val xs) else 0), .bool (okI neg xs && i64B neg (val xs))]) ∧ Below w.heap.size w w' := by
  obtain ⟨eV, eB⟩ := i64_ival neg xs
  by_cases hok : okI neg xs = true
  · rw [hok, if_pos rfl, Bool.true_and, eV, eB]
    by_cases h1 : -9223372036854775808 ≤ ival neg xs
    · by_cases h2 : ival neg xs ≤ 9223372036854775807
      · rw [if_pos ⟨h1, h2⟩, decide_eq_true ⟨h1, h2⟩]
        exact ref_Int64_mid neg A c xs hok h1 h2 w h
      · rw [if_neg (fun q => h2 q.2), decide_eq_false (fun q => h2 q.2)]
        exact ref_Int64_high neg A c xs hok (by omega) w h
    · rw [if_neg (fun q => h1 q.1), decide_eq_false (fun q => h1 q.1)]
      exact ref_Int64_low neg A c xs hok (by omega) w h
  · have hk : okI neg xs = false := by simpa using hok
    rw [hk]
    exact ref_Int64_bad neg A c xs hk w h
end Go.Proofs.Ytpcdiijmhllejaa
