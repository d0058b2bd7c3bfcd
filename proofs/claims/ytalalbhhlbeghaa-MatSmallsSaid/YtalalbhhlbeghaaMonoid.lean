/- Powers and chains of matrices over numbers that wrap round: plain. -/
import Derived.Test.YtalalbhhlbeghaaRings
namespace Go.Proofs.Ytalalbhhlbeghaa
open Go.RowKit

theorem wrap8_eq (n : Int) : IntKind.i8.wrap n = (n + 128) % 256 - 128 := by
  simp [IntKind.wrap, IntKind.bits, IntKind.signed]; omega

/-- Numbers from -h to h - 1 that wrap round. -/
def wrapM (h n : Int) : Int := (n + h) % (2 * h) - h
theorem wrapM_more (h x t : Int) : wrapM h (x + 2 * h * t) = wrapM h x := by
  unfold wrapM; rw [show x + 2 * h * t + h = x + h + 2 * h * t by omega, Int.add_mul_emod_self_left]
theorem wrapM_by (h x : Int) : ∃ t, wrapM h x = x + 2 * h * t := by
  refine ⟨-((x + h) / (2 * h)), ?_⟩
  unfold wrapM
  have := Int.emod_def (x + h) (2 * h)
  rw [this, Int.mul_neg]; omega
theorem wrapM_add_l (h a b : Int) : wrapM h (wrapM h a + b) = wrapM h (a + b) := by
  obtain ⟨t, e⟩ := wrapM_by h a
  rw [e, show a + 2 * h * t + b = a + b + 2 * h * t by omega, wrapM_more]
theorem wrapM_add_r (h a b : Int) : wrapM h (a + wrapM h b) = wrapM h (a + b) := by
  rw [Int.add_comm, wrapM_add_l, Int.add_comm]
theorem wrapM_mul_l (h a b : Int) : wrapM h (wrapM h a * b) = wrapM h (a * b) := by
  obtain ⟨t, e⟩ := wrapM_by h a
  rw [e, show (a + 2 * h * t) * b = a * b + 2 * h * (t * b) by grind, wrapM_more]
theorem wrapM_mul_r (h a b : Int) : wrapM h (a * wrapM h b) = wrapM h (a * b) := by
  rw [Int.mul_comm, wrapM_mul_l, Int.mul_comm]
theorem wrapM_wrapM (h a : Int) : wrapM h (wrapM h a) = wrapM h a := by
  have := wrapM_add_l h a 0
  simpa using this
theorem wrap8_M (n : Int) : IntKind.i8.wrap n = wrapM 128 n := by rw [wrap8_eq]; rfl
theorem wrap64_M (n : Int) : wrap64 n = wrapM 9223372036854775808 n := by unfold wrap64 wrapM; omega

/-- The ring of numbers from -h to h - 1. -/
def ringM (h : Int) : Rng := ⟨fun a b => wrapM h (a + b), fun a b => wrapM h (a * b), fun a => wrapM h (-a)⟩
def H64 : Int := 9223372036854775808
def H8 : Int := 128
theorem wrapR_M : wrapR = ringM H64 := by simp only [wrapR, ringM, wrap64_M]; rfl
theorem smallR_M : smallR = ringM H8 := by simp only [smallR, ringM, wrap8_M]; rfl

namespace M4
def okM (h : Int) (m : M4) : Prop := wrapM h m.a = m.a ∧ wrapM h m.b = m.b ∧ wrapM h m.c = m.c ∧ wrapM h m.d = m.d

theorem gmul_assoc (h : Int) (x y z : M4) : gmul (ringM h) (gmul (ringM h) x y) z = gmul (ringM h) x (gmul (ringM h) y z) := by
  apply ext4 <;> simp only [gmul, ringM, wrapM_add_l, wrapM_add_r, wrapM_mul_l, wrapM_mul_r] <;> (congr 1; grind)
theorem gmul_ok (h : Int) (x y : M4) : (gmul (ringM h) x y).okM h := ⟨wrapM_wrapM _ _, wrapM_wrapM _ _, wrapM_wrapM _ _, wrapM_wrapM _ _⟩
theorem gmul_one {h : Int} {x : M4} (hx : x.okM h) : gmul (ringM h) x one = x := by
  obtain ⟨h1, h2, h3, h4⟩ := hx
  apply ext4 <;> simp [gmul, ringM, one, wrapM_add_l, wrapM_add_r, h1, h2, h3, h4]
theorem gone_mul {h : Int} {x : M4} (hx : x.okM h) : gmul (ringM h) one x = x := by
  obtain ⟨h1, h2, h3, h4⟩ := hx
  apply ext4 <;> simp [gmul, ringM, one, wrapM_add_l, wrapM_add_r, h1, h2, h3, h4]

/-- x, n times. -/
def times (h : Int) (x : M4) : Nat → M4
  | 0 => one
  | n + 1 => gmul (ringM h) x (times h x n)
theorem one_ok (h : Int) (hh : 2 ≤ h) : one.okM h := by
  have e : ∀ n : Int, 0 ≤ n → n ≤ 1 → wrapM h n = n := fun n h0 h1 => by
    unfold wrapM; rw [Int.emod_eq_of_lt (by omega) (by omega)]; omega
  exact ⟨e 1 (by omega) (by omega), e 0 (by omega) (by omega), e 0 (by omega) (by omega), e 1 (by omega) (by omega)⟩
theorem times_ok (h : Int) (hh : 2 ≤ h) (x : M4) : ∀ n, (times h x n).okM h
  | 0 => one_ok h hh
  | _ + 1 => gmul_ok h _ _
theorem times_add (h : Int) (hh : 2 ≤ h) (x : M4) (m n : Nat) : gmul (ringM h) (times h x m) (times h x n) = times h x (m + n) := by
  induction m with
  | zero => simp only [times, Nat.zero_add]; exact gone_mul (times_ok h hh x n)
  | succ m ih => rw [Nat.succ_add]; simp only [times]; rw [gmul_assoc, ih]
theorem times_one (h : Int) {x : M4} (hx : x.okM h) : times h x 1 = x := gmul_one hx
theorem times_two (h : Int) (hh : 2 ≤ h) {x : M4} (hx : x.okM h) (n : Nat) : times h (gmul (ringM h) x x) n = times h x (2 * n) := by
  induction n with
  | zero => rfl
  | succ n ih =>
    rw [times, ih, show 2 * (n + 1) = 2 + 2 * n by omega, ← times_add h hh x 2]
    simp only [times]
    rw [gmul_one hx]

theorem gpow_eq (h : Int) (hh : 2 ≤ h) : ∀ (k : Nat) (r s : M4) (n : Nat), n < 2 ^ k → r.okM h → s.okM h → gpow (ringM h) (k + 1) r s n = gmul (ringM h) (times h s n) r
  | k, r, s, 0, _, hr, _ => by rw [gpow_stop, times, gone_mul hr]
  | 0, r, s, n + 1, hn, _, _ => by simp at hn
  | k + 1, r, s, n + 1, hn, hr, hs => by
    rw [gpow_more _ _ _ _ _ (by omega)]
    have hlt : (n + 1) / 2 < 2 ^ k := by rw [Nat.pow_succ] at hn; omega
    by_cases hb : (n + 1) % 2 = 1
    · rw [if_pos hb, gpow_eq h hh k _ _ _ hlt (gmul_ok h _ _) (gmul_ok h _ _), times_two h hh hs, ← gmul_assoc]
      have e : times h s (2 * ((n + 1) / 2)) = times h s n := by rw [show 2 * ((n + 1) / 2) = n by omega]
      have e2 : gmul (ringM h) (times h s n) s = times h s (n + 1) := by
        rw [← times_add h hh s n 1, times_one h hs]
      rw [e, e2]
    · rw [if_neg hb, gpow_eq h hh k _ _ _ hlt hr (gmul_ok h _ _), times_two h hh hs, show 2 * ((n + 1) / 2) = n + 1 by omega]

theorem power_eq (h : Int) (hh : 2 ≤ h) {x : M4} (hx : x.okM h) (n : Nat) (hn : n ≤ 18446744073709551615) : gpow (ringM h) 65 one x n = times h x n := by
  rw [gpow_eq h hh 64 _ _ _ (by omega) (one_ok h hh) hx, gmul_one (times_ok h hh x n)]

theorem chain_eq (h : Int) (x : M4) (n : Nat) : gchain (ringM h) one (List.replicate n x) = times h x n := by
  induction n with
  | zero => rfl
  | succ n ih =>
    rw [List.replicate_succ', gchain, List.foldl_append]
    show gmul (ringM h) x (gchain (ringM h) one (List.replicate n x)) = _
    rw [ih]; rfl
theorem chain_ok (h : Int) : ∀ (l : List M4) {r : M4}, r.okM h → (gchain (ringM h) r l).okM h
  | [], _, hr => hr
  | _ :: l, _, _ => chain_ok h l (gmul_ok h _ _)
theorem chain_behind (h : Int) (hh : 2 ≤ h) : ∀ (l : List M4) {r : M4}, r.okM h → gchain (ringM h) r l = gmul (ringM h) (gchain (ringM h) one l) r
  | [], r, hr => (gone_mul hr).symm
  | m :: l, r, hr => by
    show gchain (ringM h) (gmul (ringM h) m r) l = gmul (ringM h) (gchain (ringM h) (gmul (ringM h) m one) l) r
    rw [chain_behind h hh l (gmul_ok h m r), chain_behind h hh l (gmul_ok h m one), gmul_assoc, gmul_assoc, gone_mul hr]
theorem chain_append (R : Rng) (r : M4) (l k : List M4) : gchain R r (l ++ k) = gchain R (gchain R r l) k := List.foldl_append
theorem ok_M {x : M4} (hx : x.ok) : x.okM H64 := by
  obtain ⟨h1, h2, h3, h4⟩ := hx
  rw [wrap64_M] at h1 h2 h3 h4
  exact ⟨h1, h2, h3, h4⟩
/-- x, n times, over 64 bits and over 8. -/
def tw (x : M4) (n : Nat) : M4 := times H64 x n
def ts (x : M4) (n : Nat) : M4 := times H8 x n
theorem tw_pow {x : M4} (hx : x.ok) (n : Nat) (hn : n ≤ 18446744073709551615) : gpow wrapR 65 one x n = tw x n := by
  rw [wrapR_M]; exact power_eq H64 (by unfold H64; omega) (ok_M hx) n hn
theorem tw_add (x : M4) (m n : Nat) : mul (tw x m) (tw x n) = tw x (m + n) := by
  show gmul wrapR _ _ = _
  rw [wrapR_M]; exact times_add H64 (by unfold H64; omega) x m n
theorem tw_chain (x : M4) (n : Nat) : gchain wrapR one (List.replicate n x) = tw x n := by
  rw [wrapR_M]; exact chain_eq H64 x n
theorem tw_one {x : M4} (hx : x.ok) : tw x 1 = x := times_one H64 (ok_M hx)
theorem tw_nought (x : M4) : tw x 0 = one := rfl
theorem ts_pow {x : M4} (hx : x.okM H8) (n : Nat) (hn : n ≤ 18446744073709551615) : gpow smallR 65 one x n = ts x n := by
  rw [smallR_M]; exact power_eq H8 (by unfold H8; omega) hx n hn
theorem ts_add (x : M4) (m n : Nat) : gmul smallR (ts x m) (ts x n) = ts x (m + n) := by
  rw [smallR_M]; exact times_add H8 (by unfold H8; omega) x m n
theorem cw_behind (l k : List M4) : mul (gchain wrapR one k) (gchain wrapR one l) = gchain wrapR one (l ++ k) := by
  show gmul wrapR _ _ = _
  rw [chain_append, wrapR_M]
  exact (chain_behind H64 (by unfold H64; omega) k (chain_ok H64 l (one_ok H64 (by unfold H64; omega)))).symm
end M4
end Go.Proofs.Ytalalbhhlbeghaa
