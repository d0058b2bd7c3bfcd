/- Int64: a number as one of 64 bits. -/
import Derived.Test.YtpcdiijmhllejaaSame
namespace Go.Proofs.Ytpcdiijmhllejaa
open Go.RowKit

/-- A number as one of 64 bits; false: it does not fit. -/
def i64V (neg : Bool) (v : Nat) : Int := if neg then (if v ≤ 9223372036854775808 then -(v : Int) else 0) else if v < 9223372036854775808 then v else 0
def i64B (neg : Bool) (v : Nat) : Bool := if neg then decide (v ≤ 9223372036854775808) else decide (v < 9223372036854775808)
theorem or_nought (a : Nat) (h : a < 4294967296) : bits .or .u64 0 (a : Int) = (a : Int) := by
  have := u64_or_nat 0 a (by omega) (by omega)
  simpa using this
theorem or_high (a b : Nat) (ha : a < 4294967296) (hb : b < 4294967296) : bits .or .u64 (a : Int) ((b : Int) * 4294967296) = ((a + 4294967296 * b : Nat) : Int) := by
  have h := u64_or_nat a (b * 4294967296) (by omega) (by omega)
  have e : a ||| b * 4294967296 = a + 4294967296 * b := by
    have := Nat.two_pow_add_eq_or_of_lt (i := 32) (b := a) (by omega) b
    rw [Nat.or_comm, Nat.mul_comm b, show (4294967296 : Nat) = 2 ^ 32 by rfl, ← this]; omega
  rw [e] at h
  simpa using h

set_option maxRecDepth 100000 in
set_option maxHeartbeats 1000000 in
theorem int64_two (neg : Bool) (A : Option Addr) (c : Nat) (a b : Nat) (hok : okI neg [a, b] = true) (w : World) (h : Raw w A c [a, b]) :
    Calls Try.prog 7 #[.agg #[.bool neg, .slice A 2 c]] w fun e w' => e = .returned (.tuple #[.int .i64 (i64V neg (val [a, b])), .bool (i64B neg (val [a, b]))]) ∧ Below w.heap.size w w' := by
  have h0 := h.alloc (.cells #[.bool neg, .slice A [a, b].length c] 24)
  have e0 : errI neg [a, b] = 0 := by simp [errI, hok]
  have C := exact_Check_any neg A c [a, b] _ h0
  rw [e0] at C
  have HC := Lib.hid C
  have la : a < 4294967296 := h.limbs a (by simp)
  have lb : b < 4294967296 := h.limbs b (by simp)
  obtain ⟨ad, rfl, hbl, ca⟩ := h.reads.get (k := 0) (by simp)
  obtain ⟨ad', hq, -, cb⟩ := h.reads.get (k := 1) (by simp)
  obtain rfl := Option.some.inj hq
  simp only [List.getElem_cons_zero, List.getElem_cons_succ, Addr.add, if_true, if_neg (show ¬ (1 : Nat) = 0 by omega)] at ca cb
  have hp := Pair.new w 24 (.bool neg) (.slice (some ad) [a, b].length c)
  clear h C h0 e0 hok hq
  go_enter Try.func7, Try.ntmps7
  go_wp2_with fail
  refine HC.out.mono ?_
  rintro e w1 ⟨rfl, hb⟩
  have hp1 := hp.below hb
  have hb1 := (Below.alloc (Below.refl w.heap.size w) (Nat.le_refl _) _).trans (hb.mono (by simp))
  have ca1 : w1.cell? ad = some (.int .u32 a) := by rw [hb1.cell hbl]; exact ca
  have cb1 : w1.cell? ⟨ad.block, ad.off + 1, none⟩ = some (.int .u32 b) := by rw [hb1.cell (p := ⟨ad.block, ad.off + 1, none⟩) hbl]; exact cb
  obtain ⟨hlt, c0, c1, -, -⟩ := hp1.facts
  clear hb hp hp1 HC ca cb
  go_wp2_with fail
  go_loop [4, 19] (fun n i => (n = .int .u64 0 ∧ i = .int .i64 0) ∨ (n = .int .u64 a ∧ i = .int .i64 1) ∨ (n = .int .u64 ((a + 4294967296 * b : Nat) : Int) ∧ i = .int .i64 2)) (fun _ i => 2 - (intOf i).toNat)
  case atStart => exact .inl ⟨rfl, rfl⟩
  case round =>
    rcases hrel with ⟨rfl, rfl⟩ | ⟨rfl, rfl⟩ | ⟨rfl, rfl⟩
    · have HO := Lib.hid (or_nought a la)
      go_wp2_with fail
      go_round
      case rel => exact .inr (.inl ⟨by rw [HO.out], rfl⟩)
      case measure => simp [intOf]
    · have HO := Lib.hid (or_high a b la lb)
      go_wp2_with fail
      go_round
      case rel => exact .inr (.inr ⟨by rw [HO.out], rfl⟩)
      case measure => simp [intOf]
    · have hv : val [a, b] = a + 4294967296 * b := val_two a b
      have hlim : val [a, b] ≤ 18446744073709551615 := by omega
      rw [← hv]
      generalize hgv : val [a, b] = v at *
      have HG := Lib.hid hgv
      clear hv ca1 cb1 hgv
      cases neg
      · by_cases h63 : v < 9223372036854775808
        · have hi : (v : Int) ≤ 9223372036854775807 := by omega
          have hi0 : 0 ≤ (v : Int) := by omega
          have fin : i64V false v = v ∧ i64B false v = true := by simp [i64V, i64B, h63]
          have HF := Lib.hid fin
          clear h63 fin hlim
          obtain ⟨z, hz⟩ : ∃ z : Int, z = (v : Int) := ⟨_, rfl⟩
          rw [← hz] at hi hi0 ⊢
          have HZ := Lib.hid hz
          clear hz
          go_wp2
          go_ret2
          exact ⟨by rw [HG.out, HF.out.1, HF.out.2, ← HZ.out]; rfl, hb1⟩
        · have hi : 9223372036854775807 < (v : Int) := by omega
          have hi2 : (v : Int) ≤ 18446744073709551615 := by omega
          have fin : i64V false v = 0 ∧ i64B false v = false := by simp [i64V, i64B, h63]
          have HF := Lib.hid fin
          clear h63 fin hlim
          obtain ⟨z, hz⟩ : ∃ z : Int, z = (v : Int) := ⟨_, rfl⟩
          rw [← hz] at hi hi2 ⊢
          clear hz
          go_wp2
          go_ret2
          exact ⟨by rw [HG.out, HF.out.1, HF.out.2]; rfl, hb1⟩
      · by_cases h63 : v ≤ 9223372036854775808
        · have hi : (v : Int) ≤ 9223372036854775808 := by omega
          have hw : wrap64 (-wrap64 (v : Int)) = -(v : Int) := by unfold wrap64; omega
          have fin : i64V true v = -(v : Int) ∧ i64B true v = true := by simp [i64V, i64B, h63]
          have HF := Lib.hid fin
          have HW := Lib.hid hw
          clear h63 fin hw
          go_wp2
          go_ret2
          exact ⟨by rw [HG.out, HF.out.1, HF.out.2, ← HW.out]; rfl, hb1⟩
        · have hi : 9223372036854775808 < (v : Int) := by omega
          have fin : i64V true v = 0 ∧ i64B true v = false := by simp [i64V, i64B, h63]
          have HF := Lib.hid fin
          clear h63 fin
          go_wp2
          go_ret2
          exact ⟨by rw [HG.out, HF.out.1, HF.out.2]; rfl, hb1⟩
set_option maxRecDepth 100000 in
set_option maxHeartbeats 1000000 in
theorem int64_one (neg : Bool) (A : Option Addr) (c : Nat) (a : Nat) (hok : okI neg [a] = true) (w : World) (h : Raw w A c [a]) :
    Calls Try.prog 7 #[.agg #[.bool neg, .slice A 1 c]] w fun e w' => e = .returned (.tuple #[.int .i64 (i64V neg (val [a])), .bool (i64B neg (val [a]))]) ∧ Below w.heap.size w w' := by
  have h0 := h.alloc (.cells #[.bool neg, .slice A [a].length c] 24)
  have e0 : errI neg [a] = 0 := by simp [errI, hok]
  have C := exact_Check_any neg A c [a] _ h0
  rw [e0] at C
  have HC := Lib.hid C
  have la : a < 4294967296 := h.limbs a (by simp)
  obtain ⟨ad, rfl, hbl, ca⟩ := h.reads.get (k := 0) (by simp)
  simp only [List.getElem_cons_zero, Addr.add, if_true] at ca
  have hp := Pair.new w 24 (.bool neg) (.slice (some ad) [a].length c)
  clear h C h0 e0 hok
  go_enter Try.func7, Try.ntmps7
  go_wp2_with fail
  refine HC.out.mono ?_
  rintro e w1 ⟨rfl, hb⟩
  have hp1 := hp.below hb
  have hb1 := (Below.alloc (Below.refl w.heap.size w) (Nat.le_refl _) _).trans (hb.mono (by simp))
  have ca1 : w1.cell? ad = some (.int .u32 a) := by rw [hb1.cell hbl]; exact ca
  obtain ⟨hlt, c0, c1, -, -⟩ := hp1.facts
  clear hb hp hp1 HC ca
  go_wp2_with fail
  go_loop [4, 19] (fun n i => (n = .int .u64 0 ∧ i = .int .i64 0) ∨ (n = .int .u64 a ∧ i = .int .i64 1)) (fun _ i => 1 - (intOf i).toNat)
  case atStart => exact .inl ⟨rfl, rfl⟩
  case round =>
    rcases hrel with ⟨rfl, rfl⟩ | ⟨rfl, rfl⟩
    · have HO := Lib.hid (or_nought a la)
      go_wp2_with fail
      go_round
      case rel => exact .inr ⟨by rw [HO.out], rfl⟩
      case measure => simp [intOf]
    · have hv : val [a] = a := by simp [val]
      have hlim : val [a] ≤ 18446744073709551615 := by omega
      rw [← hv]
      generalize hgv : val [a] = v at *
      have HG := Lib.hid hgv
      clear hv ca1 hgv
      cases neg
      · by_cases h63 : v < 9223372036854775808
        · have hi : (v : Int) ≤ 9223372036854775807 := by omega
          have hi0 : 0 ≤ (v : Int) := by omega
          have fin : i64V false v = v ∧ i64B false v = true := by simp [i64V, i64B, h63]
          have HF := Lib.hid fin
          clear h63 fin hlim
          obtain ⟨z, hz⟩ : ∃ z : Int, z = (v : Int) := ⟨_, rfl⟩
          rw [← hz] at hi hi0 ⊢
          have HZ := Lib.hid hz
          clear hz
          go_wp2
          go_ret2
          exact ⟨by rw [HG.out, HF.out.1, HF.out.2, ← HZ.out]; rfl, hb1⟩
        · have hi : 9223372036854775807 < (v : Int) := by omega
          have hi2 : (v : Int) ≤ 18446744073709551615 := by omega
          have fin : i64V false v = 0 ∧ i64B false v = false := by simp [i64V, i64B, h63]
          have HF := Lib.hid fin
          clear h63 fin hlim
          obtain ⟨z, hz⟩ : ∃ z : Int, z = (v : Int) := ⟨_, rfl⟩
          rw [← hz] at hi hi2 ⊢
          clear hz
          go_wp2
          go_ret2
          exact ⟨by rw [HG.out, HF.out.1, HF.out.2]; rfl, hb1⟩
      · by_cases h63 : v ≤ 9223372036854775808
        · have hi : (v : Int) ≤ 9223372036854775808 := by omega
          have hw : wrap64 (-wrap64 (v : Int)) = -(v : Int) := by unfold wrap64; omega
          have fin : i64V true v = -(v : Int) ∧ i64B true v = true := by simp [i64V, i64B, h63]
          have HF := Lib.hid fin
          have HW := Lib.hid hw
          clear h63 fin hw
          go_wp2
          go_ret2
          exact ⟨by rw [HG.out, HF.out.1, HF.out.2, ← HW.out]; rfl, hb1⟩
        · have hi : 9223372036854775808 < (v : Int) := by omega
          have fin : i64V true v = 0 ∧ i64B true v = false := by simp [i64V, i64B, h63]
          have HF := Lib.hid fin
          clear h63 fin
          go_wp2
          go_ret2
          exact ⟨by rw [HG.out, HF.out.1, HF.out.2]; rfl, hb1⟩

set_option maxRecDepth 100000 in
set_option maxHeartbeats 400000 in
theorem int64_nil (A : Option Addr) (c : Nat) (w : World) (h : Raw w A c []) :
    Calls Try.prog 7 #[.agg #[.bool false, .slice A 0 c]] w fun e w' => e = .returned (.tuple #[.int .i64 0, .bool true]) ∧ Below w.heap.size w w' := by
  have h0 := h.alloc (.cells #[.bool false, .slice A 0 c] 24)
  have C := exact_Check_any false A c [] _ h0
  rw [show errI false [] = 0 by rfl] at C
  have HC := Lib.hid C
  have hp := Pair.new w 24 (.bool false) (.slice A 0 c)
  clear h C h0
  go_enter Try.func7, Try.ntmps7
  go_wp2_with fail
  refine HC.out.mono ?_
  rintro e w1 ⟨rfl, hb⟩
  have hp1 := hp.below hb
  have hb1 := (Below.alloc (Below.refl w.heap.size w) (Nat.le_refl _) _).trans (hb.mono (by simp))
  obtain ⟨hlt, c0, c1, -, -⟩ := hp1.facts
  clear hb hp hp1 HC
  go_wp2_with fail
  go_loop [4, 19] (fun n i => n = .int .u64 0 ∧ i = .int .i64 0) (fun _ i => 1 - (intOf i).toNat)
  case atStart => exact ⟨rfl, rfl⟩
  case round =>
    obtain ⟨rfl, rfl⟩ := hrel
    go_wp2
    go_ret2
    exact ⟨rfl, hb1⟩

set_option maxRecDepth 100000 in
set_option maxHeartbeats 400000 in
theorem int64_bad (neg : Bool) (A : Option Addr) (c : Nat) (xs : List Nat) (hok : okI neg xs = false) (w : World) (h : Raw w A c xs) :
    Calls Try.prog 7 #[.agg #[.bool neg, .slice A xs.length c]] w fun e w' => e = .returned (.tuple #[.int .i64 0, .bool false]) ∧ Below w.heap.size w w' := by
  have h0 := h.alloc (.cells #[.bool neg, .slice A xs.length c] 24)
  have C := exact_Check_any neg A c xs _ h0
  rw [show errI neg xs = 1 by simp [errI, hok]] at C
  have HC := Lib.hid C
  have hp := Pair.new w 24 (.bool neg) (.slice A xs.length c)
  clear h C h0 hok
  go_enter Try.func7, Try.ntmps7
  go_wp2_with fail
  refine HC.out.mono ?_
  rintro e w1 ⟨rfl, hb⟩
  have hp1 := hp.below hb
  have hb1 := (Below.alloc (Below.refl w.heap.size w) (Nat.le_refl _) _).trans (hb.mono (by simp))
  obtain ⟨hlt, c0, c1, -, -⟩ := hp1.facts
  clear hb hp hp1 HC
  go_wp2
  go_ret2
  exact ⟨rfl, hb1⟩

set_option maxRecDepth 100000 in
set_option maxHeartbeats 400000 in
theorem int64_long (neg : Bool) (A : Option Addr) (c : Nat) (xs : List Nat) (hok : okI neg xs = true) (hl : 2 < xs.length) (w : World) (h : Raw w A c xs) :
    Calls Try.prog 7 #[.agg #[.bool neg, .slice A xs.length c]] w fun e w' => e = .returned (.tuple #[.int .i64 0, .bool false]) ∧ Below w.heap.size w w' := by
  have h0 := h.alloc (.cells #[.bool neg, .slice A xs.length c] 24)
  have C := exact_Check_any neg A c xs _ h0
  rw [show errI neg xs = 0 by simp [errI, hok]] at C
  have HC := Lib.hid C
  have hp := Pair.new w 24 (.bool neg) (.slice A xs.length c)
  have hl2 : (2 : Int) < (xs.length : Int) := by omega
  have h1 := h.cap
  have h2 := h.most
  clear h C h0 hok
  go_enter Try.func7, Try.ntmps7
  go_wp2_with fail
  refine HC.out.mono ?_
  rintro e w1 ⟨rfl, hb⟩
  have hp1 := hp.below hb
  have hb1 := (Below.alloc (Below.refl w.heap.size w) (Nat.le_refl _) _).trans (hb.mono (by simp))
  obtain ⟨hlt, c0, c1, -, -⟩ := hp1.facts
  clear hb hp hp1 HC
  go_wp2
  go_ret2
  exact ⟨rfl, hb1⟩

theorem val_long {xs : List Nat} (hx : Limbs xs) (hc : Canon xs) (hl : 2 < xs.length) : 18446744073709551616 ≤ val xs := by
  rcases Nat.lt_or_ge (val xs) 18446744073709551616 with h | h
  · have := (natL_length_le (n := val xs) (k := 2)).2 (by omega)
    rw [natL_val hx hc] at this
    omega
  · exact h

theorem whole_Int64_any (neg : Bool) (A : Option Addr) (c : Nat) (xs : List Nat) (w : World) (h : Raw w A c xs) :
    Calls Try.prog 7 #[.agg #[.bool neg, .slice A xs.length c]] w fun e w' => e = .returned (.tuple #[.int .i64 (if okI neg xs then i64V neg (val xs) else 0), .bool (okI neg xs && i64B neg (val xs))]) ∧ Below w.heap.size w w' := by
  by_cases hok : okI neg xs = true
  · simp only [hok, if_true, Bool.true_and]
    by_cases hl : 2 < xs.length
    · have hv := val_long h.limbs (okI_true.1 hok).2.1 hl
      have e1 : i64V neg (val xs) = 0 := by
        unfold i64V; cases neg
        · rw [if_neg (by simp), if_neg (by omega)]
        · rw [if_pos rfl, if_neg (by omega)]
      have e2 : i64B neg (val xs) = false := by
        unfold i64B; cases neg
        · rw [if_neg (by simp)]; simp; omega
        · rw [if_pos rfl]; simp; omega
      rw [e1, e2]
      exact int64_long neg A c xs hok hl w h
    · match xs, hl, h, hok with
      | [], _, h, hok =>
        obtain rfl : neg = false := (okI_true.1 hok).2.2 rfl
        exact int64_nil A c w h
      | [a], _, h, hok => exact int64_one neg A c a hok w h
      | [a, b], _, h, hok => exact int64_two neg A c a b hok w h
      | _ :: _ :: _ :: _, hl, _, _ => simp at hl
  · have hk : okI neg xs = false := by simpa using hok
    rw [hk]
    exact int64_bad neg A c xs hk w h
end Go.Proofs.Ytpcdiijmhllejaa
