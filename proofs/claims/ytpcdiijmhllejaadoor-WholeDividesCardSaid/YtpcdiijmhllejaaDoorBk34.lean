/- Several texts in one: WrapI, May. -/
import Derived.Test.YtpcdiijmhllejaaDoorBk11
import Derived.Test.YtpcdiijmhllejaaDoorBk22
import Derived.Test.YtpcdiijmhllejaaDoorBk05
/- Sign, Bits of package whole and of the references: 0 of what may not be. (Written by wip/exact/genwrap.py.) -/
namespace Go.Proofs.YtpcdiijmhllejaaDoor
open Go.RowKit

set_option maxRecDepth 100000 in
set_option maxHeartbeats 400000 in
theorem whole_Sign_any (neg : Bool) (A : Option Addr) (c : Nat) (xs : List Nat) (w : World) (h : Raw w A c xs) :
    Calls Tryd.prog 16 #[.agg #[.bool neg, .slice A xs.length c]] w fun e w' => e = .returned (.int .i64 (if okI neg xs then sgnI neg xs else 0)) ∧ Below w.heap.size w w' := by
  have h0 := h.alloc (.cells #[.bool neg, .slice A xs.length c] 24)
  have hp := Pair.new w 24 (.bool neg) (.slice A xs.length c)
  have HK := Lib.hid h0
  clear h0
  by_cases hok : okI neg xs = true
  · have hl := (okI_true.1 hok).1
    have e0 : errI neg xs = 0 := by simp [errI, hok]
    rw [if_pos hok]
    go_enter Tryd.func16, Tryd.ntmps16
    go_wp2_with fail
    refine (exact_Check_any neg A c xs _ HK.out).mono ?_
    rintro e w1 ⟨rfl, hb⟩
    rw [e0]
    have hp1 := hp.below hb
    have hb1 := (Below.alloc (Below.refl w.heap.size w) (Nat.le_refl _) _).trans (hb.mono (by simp))
    have h1 := HK.out.below hb
    obtain ⟨hlt, c0, c1, -, -⟩ := hp1.facts
    clear hb hp e0
    go_wp2_with fail
    refine (exact_Sign_any neg A c xs _ h1).mono ?_
    rintro e w2 ⟨rfl, hb2⟩
    go_wp2
    go_ret
    exact ⟨rfl, belowTo hb1 hb2⟩
  · have e0 : errI neg xs = 1 := by simp [errI, hok]
    rw [if_neg hok]
    go_enter Tryd.func16, Tryd.ntmps16
    go_wp2_with fail
    refine (exact_Check_any neg A c xs _ HK.out).mono ?_
    rintro e w1 ⟨rfl, hb⟩
    rw [e0]
    have hb1 := (Below.alloc (Below.refl w.heap.size w) (Nat.le_refl _) _).trans (hb.mono (by simp))
    go_wp2
    go_ret
    exact ⟨rfl, hb1⟩

set_option maxRecDepth 100000 in
set_option maxHeartbeats 400000 in
theorem whole_Bits_any (neg : Bool) (A : Option Addr) (c : Nat) (xs : List Nat) (w : World) (h : Raw w A c xs) :
    Calls Tryd.prog 21 #[.agg #[.bool neg, .slice A xs.length c]] w fun e w' => e = .returned (.int .i64 (if okI neg xs then (bitsI xs : Int) else 0)) ∧ Below w.heap.size w w' := by
  have h0 := h.alloc (.cells #[.bool neg, .slice A xs.length c] 24)
  have hp := Pair.new w 24 (.bool neg) (.slice A xs.length c)
  have HK := Lib.hid h0
  clear h0
  by_cases hok : okI neg xs = true
  · have hl := (okI_true.1 hok).1
    have e0 : errI neg xs = 0 := by simp [errI, hok]
    rw [if_pos hok]
    go_enter Tryd.func21, Tryd.ntmps21
    go_wp2_with fail
    refine (exact_Check_any neg A c xs _ HK.out).mono ?_
    rintro e w1 ⟨rfl, hb⟩
    rw [e0]
    have hp1 := hp.below hb
    have hb1 := (Below.alloc (Below.refl w.heap.size w) (Nat.le_refl _) _).trans (hb.mono (by simp))
    have h1 := HK.out.below hb
    obtain ⟨hlt, c0, c1, -, -⟩ := hp1.facts
    clear hb hp e0
    go_wp2_with fail
    refine (exact_Bits_any neg A c xs _ h1 (by omega)).mono ?_
    rintro e w2 ⟨rfl, hb2⟩
    go_wp2
    go_ret
    exact ⟨rfl, belowTo hb1 hb2⟩
  · have e0 : errI neg xs = 1 := by simp [errI, hok]
    rw [if_neg hok]
    go_enter Tryd.func21, Tryd.ntmps21
    go_wp2_with fail
    refine (exact_Check_any neg A c xs _ HK.out).mono ?_
    rintro e w1 ⟨rfl, hb⟩
    rw [e0]
    have hb1 := (Below.alloc (Below.refl w.heap.size w) (Nat.le_refl _) _).trans (hb.mono (by simp))
    go_wp2
    go_ret
    exact ⟨rfl, hb1⟩

end Go.Proofs.YtpcdiijmhllejaaDoor

/- may, small: of a list of numbers. -/
namespace Go.Proofs.YtpcdiijmhllejaaDoor
open Go.RowKit

/-- Numbers as they came: sign, place, room, limbs. -/
abbrev Num := Bool × Option Addr × Nat × List Nat
def cellsNum (l : List Num) : List Value := l.flatMap fun m => [.bool m.1, .slice m.2.1 m.2.2.2.length m.2.2.1]
def okNum (m : Num) : Bool := okI m.1 m.2.2.2
theorem okI_long {neg : Bool} {xs : List Nat} (h : 2048 < xs.length) : okI neg xs = false := by
  rw [Bool.eq_false_iff]; intro o
  have := (okI_true.1 o).1
  omega
theorem okI_top {neg : Bool} {xs : List Nat} (k : Nat) (hk : k + 1 = xs.length) (h : xs[k] = 0) : okI neg xs = false := by
  rw [Bool.eq_false_iff]; intro o
  have := (okI_true.1 o).2.1
  have e : xs.getLast? = some 0 := by
    rw [List.getLast?_eq_getElem?]
    rw [show xs.length - 1 = k by omega, List.getElem?_eq_getElem (by omega), h]
  exact this 0 e rfl
theorem okI_good {neg : Bool} {xs : List Nat} (k : Nat) (hk : k + 1 = xs.length) (hl : xs.length ≤ 2048) (h : xs[k] ≠ 0) : okI neg xs = true := by
  refine okI_true.2 ⟨hl, fun x hx h0 => h ?_, fun e => by rw [e] at hk; simp at hk⟩
  rw [List.getLast?_eq_getElem?, show xs.length - 1 = k by omega, List.getElem?_eq_getElem (by omega)] at hx
  rw [Option.some.inj hx]; exact h0

set_option maxRecDepth 100000 in
set_option maxHeartbeats 4000000 in
theorem may_any (A : Option Addr) (c : Nat) (l : List Num) (hl : l.length ≤ 1000) (w : World) (hr : ∀ m ∈ l, Raw w m.2.1 m.2.2.1 m.2.2.2) (h : Reads w w.heap.size 2 A l.length (cellsNum l)) :
    Calls Tryd.prog 10 #[.slice A l.length c] w fun e w' => e = .returned (.bool (l.all okNum)) ∧ Below w.heap.size w w' := by
  have HR := Lib.hid h
  have HM := Lib.hid hr
  clear h hr
  have H0 := Lib.hid (show (∀ j (hj : j < 0) (h : j < l.length), okNum l[j] = true) from by intro j hj; omega)
  go_enter Tryd.func10, Tryd.ntmps10
  go_wp2_with fail
  go_loopw [3] (fun s wr => ∃ i : Nat, s = .int .i64 i ∧ i ≤ l.length ∧ Hid (∀ j (hj : j < i) (h : j < l.length), okNum l[j] = true) ∧ Hid (Below w.heap.size w wr)) (fun s _ => l.length - (intOf s).toNat)
  case atStart => exact ⟨0, rfl, Nat.zero_le _, H0, Lib.hid (Below.refl _ _)⟩
  case round =>
    obtain ⟨i, rfl, hi, HN, HB⟩ := hrel
    clear H0
    by_cases hlt : i < l.length
    · have a0 : (0 : Int) ≤ (i : Int) := by omega
      have a1 : (i : Int) < (l.length : Int) := by omega
      obtain ⟨e0, e1⟩ := flat2 (fun m : Num => Value.bool m.1) (fun m : Num => Value.slice m.2.1 m.2.2.2.length m.2.2.1) l i hlt
      obtain ⟨ad, rfl, hbl, c0, c1⟩ := (HR.out.below HB.out).row2 hlt e0 e1
      have hraw := (HM.out l[i] (List.getElem_mem hlt)).below HB.out
      have HMI := Lib.hid (List.getElem_mem hlt)
      have HLT := Lib.hid hlt
      have HOK := Lib.hid (show okNum l[i] = okI l[i].1 l[i].2.2.2 from rfl)
      generalize l[i].1 = neg at *
      generalize l[i].2.1 = Am at *
      generalize l[i].2.2.1 = cm at *
      generalize l[i].2.2.2 = xs at *
      clear e0 e1 hbl
      have hm1 := hraw.cap
      have hm2 := hraw.most
      have bad : okI neg xs = false → (false = l.all okNum) := fun hf => by
        rw [eq_comm, List.all_eq_false]
        exact ⟨l[i]'HLT.out, HMI.out, fun e => Bool.false_ne_true (hf.symm.trans (HOK.out.symm.trans e))⟩
      have good : okI neg xs = true → ∀ j (hj : j < i + 1) (h : j < l.length), okNum l[j] = true := fun hf j hj h => by
        rcases (by omega : j < i ∨ j = i) with h1 | h1
        · exact HN.out j h1 h
        · subst h1; exact HOK.out.trans hf
      rcases Nat.lt_or_ge 2048 xs.length with hlong | hlong
      · have HF := Lib.hid (bad (okI_long hlong))
        have g1 : decide ((2048 : Int) < (xs.length : Int)) = true := decide_eq_true (by omega)
        clear bad good hraw hlong HOK HMI HM HR
        go_wp2_with fail
        go_ret
        exact ⟨by rw [← HF.out]; rfl, HB.out⟩
      · have g1 : decide ((2048 : Int) < (xs.length : Int)) = false := decide_eq_false (by omega)
        rcases Nat.eq_zero_or_pos xs.length with h0 | h0
        · have g2 : decide (0 < xs.length) = false := decide_eq_false (by omega)
          have g2' : decide ((0 : Int) < (xs.length : Int)) = false := decide_eq_false (by omega)
          have g3 : ((xs.length : Int) == 0) = true := by rw [h0]; rfl
          have hx : xs = [] := List.eq_nil_of_length_eq_zero h0
          cases neg
          · have HG := Lib.hid (good (okI_true.2 ⟨by omega, by rw [hx, ← natL_zero]; exact canon_natL 0, fun _ => rfl⟩))
            clear bad good hraw hlong HOK HMI hx h0
            go_wp2_with fail
            go_roundw
            case rel => exact ⟨i + 1, by go_num, HLT.out, HG, HB⟩
            case measure => simp [intOf]; omega
          · have HF := Lib.hid (bad (by rw [Bool.eq_false_iff]; intro o; have := (okI_true.1 o).2.2 hx; cases this))
            clear bad good hraw hlong HOK HMI hx h0
            go_wp2_with fail
            go_ret
            exact ⟨by rw [← HF.out]; rfl, HB.out⟩
        · have g2 : decide (0 < xs.length) = true := decide_eq_true h0
          have g2' : decide ((0 : Int) < (xs.length : Int)) = true := decide_eq_true (by omega)
          have g3 : ((xs.length : Int) == 0) = false := beq_false_of_ne (by omega)
          obtain ⟨k, hk⟩ : ∃ k, k + 1 = xs.length := ⟨xs.length - 1, by omega⟩
          obtain ⟨ad2, e2, had2, hc2⟩ := hraw.reads.get (k := k) (by omega)
          subst e2
          have hki : (xs.length : Int) - 1 = (k : Int) := by omega
          have hkl : (k : Int) < (xs.length : Int) := by omega
          have hk0 : (0 : Int) ≤ (k : Int) := by omega
          by_cases hz : xs[k] = 0
          · have HF := Lib.hid (bad (okI_top k hk hz))
            have g4 : ((xs[k] : Nat) : Int) = 0 := by omega
            rw [g4] at hc2
            have HK := Lib.hid hk
            clear bad good hraw hlong HOK HMI h0 hk g4 hz
            go_wp2_with fail
            go_ret
            exact ⟨by rw [← HF.out]; rfl, HB.out⟩
          · have HG := Lib.hid (good (okI_good k hk hlong hz))
            have g4 : (((xs[k] : Nat) : Int) == 0) = false := beq_false_of_ne (by omega)
            have HK := Lib.hid hk
            obtain ⟨u, hu⟩ : ∃ u : Int, u = ((xs[k] : Nat) : Int) := ⟨_, rfl⟩
            rw [← hu] at hc2 g4
            clear bad good hraw hlong HOK HMI h0 hk hz hu
            go_wp2_with fail
            go_roundw
            case rel => exact ⟨i + 1, by go_num, HLT.out, HG, HB⟩
            case measure => simp [intOf]; omega
    · have HT := Lib.hid (show true = l.all okNum by
        rw [eq_comm, List.all_eq_true]
        intro x hx
        obtain ⟨j, hj, rfl⟩ := List.getElem_of_mem hx
        exact HN.out j (by omega) hj)
      go_wp2_with fail
      go_ret
      exact ⟨by rw [← HT.out]; rfl, HB.out⟩
end Go.Proofs.YtpcdiijmhllejaaDoor
