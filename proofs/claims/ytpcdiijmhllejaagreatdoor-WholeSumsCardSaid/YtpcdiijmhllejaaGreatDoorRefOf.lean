/- trim, signed, Of of the references. -/
import Derived.Test.YtpcdiijmhllejaaGreatDoorSign
namespace Go.Proofs.YtpcdiijmhllejaaGreatDoor
open Go.RowKit

theorem limbInfo : (Tryz.prog.info? 60).map (fun i => (i.zero, i.size, i.bytes)) = some (some (.int .u32 0), 1, 4) := by kernel_rfl

set_option maxRecDepth 100000 in
set_option maxHeartbeats 1000000 in
theorem ref_trim (A : Option Addr) (c : Nat) (xs : List Nat) (hx : Limbs xs) (hc : xs.length ≤ c) (hm : c ≤ 9223372036854775807) (B : Nat) (w : World) (hr : ReadsU w B A xs) :
    Calls Tryz.prog 168 #[.slice A xs.length c] w fun e w' => e = .returned (.slice A (natL (val xs)).length c) ∧ w = w' := by
  have HR := Lib.hid hr
  have HX := Lib.hid hx
  clear hr hx
  go_enter Tryz.func168, Tryz.ntmps168
  go_wp2_with fail
  go_loop [0] (fun v => ∃ k : Nat, v = .slice A k c ∧ k ≤ xs.length ∧ natL (val (xs.take k)) = natL (val xs)) (fun v => lenOf v)
  case atStart => exact ⟨xs.length, rfl, Nat.le_refl _, by rw [List.take_length]⟩
  case round =>
    obtain ⟨k, rfl, hk, hv⟩ := hrel
    have HV := Lib.hid hv
    clear hv
    cases k with
    | zero =>
      go_wp2_with fail
      go_ret
      exact ⟨by rw [← HV.out]; rfl, rfl⟩
    | succ k =>
      obtain ⟨ad, rfl, -, hcell⟩ := HR.out.get (k := k) (by omega)
      by_cases h0 : xs[k] = 0
      · have HZ := Lib.hid h0
        rw [h0] at hcell
        clear h0
        go_wp2_with fail
        go_round
        case rel => exact ⟨k, rfl, by omega, by rw [← natL_take_nought (by omega) HZ.out]; exact HV.out⟩
        case measure => simp [lenOf]
      · have hb : ((xs[k] : Int) == 0) = false := by simp; omega
        have HZ := Lib.hid h0
        clear h0
        go_wp2_with fail
        go_ret
        refine ⟨?_, rfl⟩
        have e := HV.out
        rw [natL_val (limbs_take HX.out _) (canon_of_get (by omega) HZ.out)] at e
        rw [← e, List.length_take, Nat.min_eq_left hk]; rfl
set_option maxRecDepth 100000 in
set_option maxHeartbeats 400000 in
theorem ref_signed_nought (neg : Bool) (A : Option Addr) (c : Nat) (xs : List Nat) (w : World) (h : Raw w A c xs) (hv : val xs = 0) :
    Calls Tryz.prog 107 #[.bool neg, .slice A xs.length c] w fun e w' => e = .returned (.agg #[.bool false, .slice none 0 0]) ∧ Below w.heap.size w w' := by
  have C := ref_trim A c xs h.limbs h.cap h.most (w.heap.size) (w.alloc (.cells #[.bool false, .slice none 0 0] 24)) (h.reads.alloc (Nat.le_refl _) _)
  rw [hv, natL_zero, List.length_nil] at C
  have HC := Lib.hid C
  clear C hv
  go_enter Tryz.func107, Tryz.ntmps107
  go_wp2_with (first | (go_at_call 168; with_reducible refine HC.out.mono ?_; rintro e w' ⟨rfl, rfl⟩))
  exact bodyPost_ret (by simp [results, Tryz.results107, go_sem]) rfl ⟨rfl, by repeat (first | exact Below.refl _ _ | apply Below.drew | refine Below.alloc ?_ (by simp; try omega) _)⟩

set_option maxRecDepth 100000 in
set_option maxHeartbeats 400000 in
theorem ref_signed_more (neg : Bool) (A : Option Addr) (c : Nat) (xs : List Nat) (w : World) (h : Raw w A c xs) (hv : val xs ≠ 0) :
    Calls Tryz.prog 107 #[.bool neg, .slice A xs.length c] w fun e w' => e = .returned (.agg #[.bool neg, .slice A (natL (val xs)).length c]) ∧ Below w.heap.size w w' := by
  have C := ref_trim A c xs h.limbs h.cap h.most (w.heap.size) (w.alloc (.cells #[.bool false, .slice none 0 0] 24)) (h.reads.alloc (Nat.le_refl _) _)
  have hne : (natL (val xs)).length ≠ 0 := fun h0 => hv (natL_eq_nil.1 (List.eq_nil_of_length_eq_zero h0))
  have hle := natL_val_le h.limbs
  have h1 := h.cap
  have h2 := h.most
  have HC := Lib.hid C
  clear C hv h
  generalize (natL (val xs)).length = n at *
  have hb : ((n : Int) == 0) = false := by simp; omega
  go_enter Tryz.func107, Tryz.ntmps107
  go_wp2_with (first | (go_at_call 168; with_reducible refine HC.out.mono ?_; rintro e w' ⟨rfl, rfl⟩))
  exact bodyPost_ret (by simp [results, Tryz.results107, go_sem]) rfl ⟨rfl, by repeat (first | exact Below.refl _ _ | apply Below.drew | refine Below.alloc ?_ (by simp; try omega) _)⟩

set_option maxRecDepth 100000 in
set_option maxHeartbeats 400000 in
theorem ref_Of_nought (w : World) :
    Calls Tryz.prog 159 #[.int .i64 0] w (RetInt w.heap.size w 0) := by
  have C := ref_signed_nought false (some ⟨w.heap.size + 1, 0, none⟩) 2 [0, 0] _ (raw_two1 w (.cells #[.bool false, .slice none 0 0] 24) 60 0 0 (by omega) (by omega)) (by rfl)
  have HC := Lib.hid C
  clear C
  go_enter Tryz.func159, Tryz.ntmps159
  go_wp2_with fail
  refine HC.out.mono ?_
  rintro e w1 ⟨rfl, hb⟩
  have hp := ((Pair.new w 24 (.bool false) (.slice none 0 0)).alloc _).below hb
  have hb1 : Below w.heap.size w w1 := (((Below.refl _ _).alloc (Nat.le_refl _) _).alloc (by simp) _).trans (hb.mono (by simp; omega))
  obtain ⟨hl, c0, c1, f0, f1⟩ := hp.facts
  clear hb HC
  go_wp2_with fail
  have hq := hp.store (.bool false) (.slice none 0 0)
  obtain ⟨_, k0, k1, _, _⟩ := hq.facts
  exact bodyPost_ret (by simp [results, Tryz.results159, go_sem, k0, k1]) rfl ⟨_, rfl, IntOwn.nought _ _, below2 hb1 (Nat.le_refl _) _ _⟩

set_option maxRecDepth 100000 in
set_option maxHeartbeats 400000 in
theorem ref_Of_more (m : Nat) (neg : Bool) (n : Int) (hm0 : m ≠ 0) (hm : m ≤ 9223372036854775808) (hm2 : neg = false → m ≤ 9223372036854775807) (hn : n = if neg then -(m : Int) else m) (w : World) :
    Calls Tryz.prog 159 #[.int .i64 n] w (RetInt w.heap.size w n) := by
  obtain ⟨l1, l2, l3⟩ := two_limbs m (by omega)
  have C := ref_signed_more neg (some ⟨w.heap.size + 1, 0, none⟩) 2 [m % 4294967296, m / 4294967296] _ (raw_two1 w (.cells #[.bool false, .slice none 0 0] 24) 60 _ _ l1 l2) (by rw [l3]; exact hm0)
  have hown := own_two1 w (.cells #[.bool false, .slice none 0 0] 24) (m % 4294967296) (m / 4294967296)
  have fin : ∀ w1, Below ((w.alloc (.cells #[.bool false, .slice none 0 0] 24)).alloc (.cells #[.int .u32 (m % 4294967296 : Nat), .int .u32 (m / 4294967296 : Nat)] 60)).heap.size ((w.alloc (.cells #[.bool false, .slice none 0 0] 24)).alloc (.cells #[.int .u32 (m % 4294967296 : Nat), .int .u32 (m / 4294967296 : Nat)] 60)) w1 →
      IntOwn w1 (w.heap.size + 1) (.agg #[.bool neg, .slice (some ⟨w.heap.size + 1, 0, none⟩) (natL (val [m % 4294967296, m / 4294967296])).length 2]) n := by
    intro w1 hb
    exact IntOwn.signed (by simp [Limbs]; omega) (own_below hown hb) (by simp) (by simp) (by rw [l3]; exact hn) (by rw [l3]; exact hm0)
  rw [l3] at C fin
  have HC := Lib.hid C
  have HF := Lib.hid fin
  clear C fin hown l1 l2 l3
  have hq1 : ((m : Int) % 4294967296) = ((m % 4294967296 : Nat) : Int) := by omega
  have hq2 : ((m : Int) / 4294967296) = ((m / 4294967296 : Nat) : Int) := by omega
  have HQ1 := Lib.hid hq1
  have HQ2 := Lib.hid hq2
  clear hq1 hq2
  cases neg
  · have h2 := hm2 rfl
    simp only [Bool.false_eq_true, if_false] at hn
    subst hn
    have hlt : ¬ (m : Int) < 0 := by omega
    go_enter Tryz.func159, Tryz.ntmps159
    go_wp2_with fail
    rw [HQ1.out, HQ2.out]
    refine HC.out.mono ?_
    rintro e w1 ⟨rfl, hb⟩
    have hI := HF.out w1 hb
    have hp := ((Pair.new w 24 (.bool false) (.slice none 0 0)).alloc _).below hb
    have hb1 : Below w.heap.size w w1 := (((Below.refl _ _).alloc (Nat.le_refl _) _).alloc (by simp) _).trans (hb.mono (by simp; omega))
    obtain ⟨hl, c0, c1, f0, f1⟩ := hp.facts
    clear hb HC HF
    go_wp2_with fail
    have hq := hp.store (.bool false) (.slice (some ⟨w.heap.size + 1, 0, none⟩) (natL m).length 2)
    obtain ⟨_, k0, k1, _, _⟩ := hq.facts
    exact bodyPost_ret (by simp [results, Tryz.results159, go_sem, k0, k1]) rfl ⟨_, rfl, (hI.pair (Nat.lt_succ_self _)).base (Nat.le_succ _), below2 hb1 (Nat.le_refl _) _ _⟩
  · simp only [if_true] at hn
    have he : IntKind.u64.wrap (-IntKind.u64.wrap n) = (m : Int) := by rw [IntKind.wrap_u64, IntKind.wrap_u64]; omega
    have hlt : n < 0 := by omega
    have HN := Lib.hid hn
    clear hn
    go_enter Tryz.func159, Tryz.ntmps159
    go_wp2_with fail
    rw [HQ1.out, HQ2.out]
    refine HC.out.mono ?_
    rintro e w1 ⟨rfl, hb⟩
    have hI := HF.out w1 hb
    have hp := ((Pair.new w 24 (.bool false) (.slice none 0 0)).alloc _).below hb
    have hb1 : Below w.heap.size w w1 := (((Below.refl _ _).alloc (Nat.le_refl _) _).alloc (by simp) _).trans (hb.mono (by simp; omega))
    obtain ⟨hl, c0, c1, f0, f1⟩ := hp.facts
    clear hb HC HF
    go_wp2_with fail
    have hq := hp.store (.bool true) (.slice (some ⟨w.heap.size + 1, 0, none⟩) (natL m).length 2)
    obtain ⟨_, k0, k1, _, _⟩ := hq.facts
    exact bodyPost_ret (by simp [results, Tryz.results159, go_sem, k0, k1]) rfl ⟨_, rfl, (hI.pair (Nat.lt_succ_self _)).base (Nat.le_succ _), below2 hb1 (Nat.le_refl _) _ _⟩

theorem ref_Of (n : Int) (h1 : -9223372036854775808 ≤ n) (h2 : n ≤ 9223372036854775807) (w : World) :
    Calls Tryz.prog 159 #[.int .i64 n] w (RetInt w.heap.size w n) := by
  by_cases h0 : n = 0
  · subst h0; exact ref_Of_nought w
  · refine ref_Of_more n.natAbs (decide (n < 0)) n (by omega) (by omega) ?_ ?_ w
    · intro h; simp at h; omega
    · split
      · rename_i h; simp at h; omega
      · rename_i h; simp at h; omega

end Go.Proofs.YtpcdiijmhllejaaGreatDoor
