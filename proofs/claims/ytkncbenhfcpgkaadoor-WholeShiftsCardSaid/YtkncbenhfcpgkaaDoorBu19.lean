/- Several texts in one: May, Ints, NV. -/
import Derived.Test.YtkncbenhfcpgkaaDoorBu13
import Derived.Test.YtkncbenhfcpgkaaDoorBuHd
import Derived.Test.YtkncbenhfcpgkaaDoorBu04
import Derived.Test.YtkncbenhfcpgkaaDoorBu03
import Derived.Test.YtkncbenhfcpgkaaDoorBu02
import Derived.Test.YtkncbenhfcpgkaaDoorBu01
import Derived.Test.YtkncbenhfcpgkaaDoorBu11
import Derived.Test.YtkncbenhfcpgkaaDoorBu12
import Derived.Test.YtkncbenhfcpgkaaDoorBu06
import Derived.Test.YtkncbenhfcpgkaaDoorBu05
import Derived.Test.YtkncbenhfcpgkaaDoorBu10
import Derived.Test.YtkncbenhfcpgkaaDoorBu09
import Derived.Test.YtkncbenhfcpgkaaDoorBu08
import Derived.Test.YtkncbenhfcpgkaaDoorBu17
import Derived.Test.YtkncbenhfcpgkaaDoorBu18
import Derived.Test.YtkncbenhfcpgkaaDoorBu16
import Derived.Test.YtkncbenhfcpgkaaDoorBu14
import Derived.Test.YtkncbenhfcpgkaaDoorBu15
import Derived.Test.YtkncbenhfcpgkaaDoorBu07
set_option maxRecDepth 100000
set_option maxHeartbeats 8000000
/- may, small: of a list of numbers. -/
namespace Go.Proofs.YtkncbenhfcpgkaaDoor
open Go.RowKit

abbrev Num := Bool × Option Addr × Nat × List Nat
def cellsNum (l : List Num) : List Value := l.flatMap fun m => [.bool m.1, .slice m.2.1 m.2.2.2.length m.2.2.1]
def okNum (m : Num) : Bool := okI m.1 m.2.2.2
theorem okI_long {neg : Bool} {xs : List Nat} (h : 2048 < xs.length) : okI neg xs = false := by
  rw [Bool.eq_false_iff]; intro o
  have := (okI_true.1 o).1
  omega
theorem okI_top {neg : Bool} {xs : List Nat} (k : Nat) (hk : k + 1 = xs.length) (h : xs[k] = 0) : okI neg xs = false := by
  rw [Bool.eq_false_iff]; intro o
  have := (okI_true.1 o).2.1
  have e : xs.getLast? = some 0 := by
    rw [List.getLast?_eq_getElem?]
    rw [show xs.length - 1 = k by omega, List.getElem?_eq_getElem (by omega), h]
  exact this 0 e rfl
theorem okI_good {neg : Bool} {xs : List Nat} (k : Nat) (hk : k + 1 = xs.length) (hl : xs.length ≤ 2048) (h : xs[k] ≠ 0) : okI neg xs = true := by
  refine okI_true.2 ⟨hl, fun x hx h0 => h ?_, fun e => by rw [e] at hk; simp at hk⟩
  rw [List.getLast?_eq_getElem?, show xs.length - 1 = k by omega, List.getElem?_eq_getElem (by omega)] at hx
  rw [Option.some.inj hx]; exact h0

theorem may_any (A : Option Addr) (c : Nat) (l : List Num) (hl : l.length ≤ 1000) (w : World) (hr : ∀ m ∈ l, Raw w m.2.1 m.2.2.1 m.2.2.2) (h : Reads w w.heap.size 2 A l.length (cellsNum l)) :
    Calls Tryd.prog 6 #[.slice A l.length c] w fun e w' => e = .returned (.bool (l.all okNum)) ∧ Below w.heap.size w w' := by
  have HR := Hd h
  have HM := Hd hr
  clear h hr
  have H0 := Hd (show (∀ j (hj : j < 0) (h : j < l.length), okNum l[j] = true) from by intro j hj; omega)
  go_enter Tryd.func6, Tryd.ntmps6
  go_wp2_with fail
  go_loopw [3] (fun s wr => ∃ i : Nat, s = .int .i64 i ∧ i ≤ l.length ∧ Hid (∀ j (hj : j < i) (h : j < l.length), okNum l[j] = true) ∧ Hid (Below w.heap.size w wr)) (fun s _ => l.length - (intOf s).toNat)
  case atStart => exact ⟨0, rfl, Nat.zero_le _, H0, Hd (Below.refl _ _)⟩
  case round =>
    obtain ⟨i, rfl, hi, HN, HB⟩ := hrel
    clear H0
    by_cases hlt : i < l.length
    · have a0 : (0 : Int) ≤ (i : Int) := by omega
      have a1 : (i : Int) < (l.length : Int) := by omega
      obtain ⟨e0, e1⟩ := flat2 (fun m : Num => Value.bool m.1) (fun m : Num => Value.slice m.2.1 m.2.2.2.length m.2.2.1) l i hlt
      obtain ⟨ad, rfl, hbl, c0, c1⟩ := (HR.out.below HB.out).row2 hlt e0 e1
      have hraw := (HM.out l[i] (List.getElem_mem hlt)).below HB.out
      have HMI := Hd (List.getElem_mem hlt)
      have HLT := Hd hlt
      have HOK := Hd (show okNum l[i] = okI l[i].1 l[i].2.2.2 from rfl)
      generalize l[i].1 = neg at *
      generalize l[i].2.1 = Am at *
      generalize l[i].2.2.1 = cm at *
      generalize l[i].2.2.2 = xs at *
      clear e0 e1 hbl
      have hm1 := hraw.cap
      have hm2 := hraw.most
      have bad : okI neg xs = false → (false = l.all okNum) := fun hf => by
        rw [eq_comm, List.all_eq_false]
        exact ⟨l[i]'HLT.out, HMI.out, fun e => Bool.false_ne_true (hf.symm.trans (HOK.out.symm.trans e))⟩
      have good : okI neg xs = true → ∀ j (hj : j < i + 1) (h : j < l.length), okNum l[j] = true := fun hf j hj h => by
        rcases (by omega : j < i ∨ j = i) with h1 | h1
        · exact HN.out j h1 h
        · subst h1; exact HOK.out.trans hf
      rcases Nat.lt_or_ge 2048 xs.length with hlong | hlong
      · have HF := Hd (bad (okI_long hlong))
        have g1 : decide ((2048 : Int) < (xs.length : Int)) = true := decide_eq_true (by omega)
        clear bad good hraw hlong HOK HMI HM HR
        go_wp2_with fail
        go_ret
        exact ⟨by rw [← HF.out]; rfl, HB.out⟩
      · have g1 : decide ((2048 : Int) < (xs.length : Int)) = false := decide_eq_false (by omega)
        rcases Nat.eq_zero_or_pos xs.length with h0 | h0
        · have g2 : decide (0 < xs.length) = false := decide_eq_false (by omega)
          have g2' : decide ((0 : Int) < (xs.length : Int)) = false := decide_eq_false (by omega)
          have g3 : ((xs.length : Int) == 0) = true := by rw [h0]; rfl
          have hx : xs = [] := List.eq_nil_of_length_eq_zero h0
          cases neg
          · have HG := Hd (good (okI_true.2 ⟨by omega, by rw [hx, ← natL_zero]; exact canon_natL 0, fun _ => rfl⟩))
            clear bad good hraw hlong HOK HMI hx h0
            go_wp2_with fail
            go_roundw
            case rel => exact ⟨i + 1, by go_num, HLT.out, HG, HB⟩
            case measure => simp [intOf]; omega
          · have HF := Hd (bad (by rw [Bool.eq_false_iff]; intro o; have := (okI_true.1 o).2.2 hx; cases this))
            clear bad good hraw hlong HOK HMI hx h0
            go_wp2_with fail
            go_ret
            exact ⟨by rw [← HF.out]; rfl, HB.out⟩
        · have g2 : decide (0 < xs.length) = true := decide_eq_true h0
          have g2' : decide ((0 : Int) < (xs.length : Int)) = true := decide_eq_true (by omega)
          have g3 : ((xs.length : Int) == 0) = false := beq_false_of_ne (by omega)
          obtain ⟨k, hk⟩ : ∃ k, k + 1 = xs.length := ⟨xs.length - 1, by omega⟩
          obtain ⟨ad2, e2, had2, hc2⟩ := hraw.reads.get (k := k) (by omega)
          subst e2
          have hki : (xs.length : Int) - 1 = (k : Int) := by omega
          have hkl : (k : Int) < (xs.length : Int) := by omega
          have hk0 : (0 : Int) ≤ (k : Int) := by omega
          by_cases hz : xs[k] = 0
          · have HF := Hd (bad (okI_top k hk hz))
            have g4 : ((xs[k] : Nat) : Int) = 0 := by omega
            rw [g4] at hc2
            have HK := Hd hk
            clear bad good hraw hlong HOK HMI h0 hk g4 hz
            go_wp2_with fail
            go_ret
            exact ⟨by rw [← HF.out]; rfl, HB.out⟩
          · have HG := Hd (good (okI_good k hk hlong hz))
            have g4 : (((xs[k] : Nat) : Int) == 0) = false := beq_false_of_ne (by omega)
            have HK := Hd hk
            obtain ⟨u, hu⟩ : ∃ u : Int, u = ((xs[k] : Nat) : Int) := ⟨_, rfl⟩
            rw [← hu] at hc2 g4
            clear bad good hraw hlong HOK HMI h0 hk hz hu
            go_wp2_with fail
            go_roundw
            case rel => exact ⟨i + 1, by go_num, HLT.out, HG, HB⟩
            case measure => simp [intOf]; omega
    · have HT := Hd (show true = l.all okNum by
        rw [eq_comm, List.all_eq_true]
        intro x hx
        obtain ⟨j, hj, rfl⟩ := List.getElem_of_mem hx
        exact HN.out j (by omega) hj)
      go_wp2_with fail
      go_ret
      exact ⟨by rw [← HT.out]; rfl, HB.out⟩
/- The calls of package whole over numbers that may be, told by the numbers alone. -/

def Fit (x : Int) : Prop := (natL x.natAbs).length ≤ 2048
instance (x : Int) : Decidable (Fit x) := inferInstanceAs (Decidable ((natL x.natAbs).length ≤ 2048))
theorem Fit.ok {x : Int} (h : Fit x) : okI (decide (x < 0)) (natL x.natAbs) = true := by
  refine okI_true.2 ⟨h, canon_natL _, fun e => ?_⟩
  have := natL_eq_nil.1 e
  exact decide_eq_false (by omega)
theorem Fit.mono {x y : Int} (h : Fit y) (hl : x.natAbs ≤ y.natAbs) : Fit x := Nat.le_trans (natL_mono hl) h
theorem Fit.small {x : Int} (h : x.natAbs < 18446744073709551616) : Fit x := by
  unfold Fit
  have : (natL x.natAbs).length ≤ 2 := natL_length_le.2 (by simpa using h)
  omega
theorem fit_of {x : Int} (h : okI (decide (x < 0)) (natL x.natAbs) = true) : Fit x := (okI_true.1 h).1
theorem ok_num {n : Bool} {xs : List Nat} (hl : Limbs xs) (o : okI n xs = true) : n = decide (ival n xs < 0) ∧ xs = natL (ival n xs).natAbs ∧ Fit (ival n xs) := by
  obtain ⟨o1, o2, o3⟩ := okI_true.1 o
  have ha : (ival n xs).natAbs = val xs := by unfold ival; split <;> omega
  have h2 : xs = natL (ival n xs).natAbs := by rw [ha]; exact (natL_val hl o2).symm
  refine ⟨?_, h2, by unfold Fit; rw [← h2]; exact o1⟩
  by_cases hx : xs = []
  · subst hx
    rw [o3 rfl]; rfl
  · have hp : 0 < val xs := by
      rcases Nat.eq_zero_or_pos (val xs) with h0 | h0
      · have := natL_val hl o2
        rw [h0, natL_zero] at this
        exact absurd this.symm hx
      · exact h0
    unfold ival
    cases n <;> simp <;> omega
def RetN2 (w : World) (z k : Int) (e : Ending) (w' : World) : Prop := ∃ A c, e = .returned (.tuple #[.agg #[.bool (decide (z < 0)), .slice A (natL z.natAbs).length c], .int .i64 k]) ∧ Raw w' A c (natL z.natAbs) ∧ Below w.heap.size w w'
def RetN3 (w : World) (z1 z2 k : Int) (e : Ending) (w' : World) : Prop := ∃ A c B d, e = .returned (.tuple #[.agg #[.bool (decide (z1 < 0)), .slice A (natL z1.natAbs).length c], .agg #[.bool (decide (z2 < 0)), .slice B (natL z2.natAbs).length d], .int .i64 k]) ∧ Raw w' A c (natL z1.natAbs) ∧ Raw w' B d (natL z2.natAbs) ∧ Below w.heap.size w w'
def RetN1 (w : World) (z : Int) (e : Ending) (w' : World) : Prop := ∃ A c, e = .returned (.agg #[.bool (decide (z < 0)), .slice A (natL z.natAbs).length c]) ∧ Raw w' A c (natL z.natAbs) ∧ Below w.heap.size w w'
theorem RetInt2.n2 {base : Nat} {w w' : World} {z k : Int} {e : Ending} (h : RetInt2 base w z k e w') : RetN2 w z k e w' := by
  obtain ⟨v, rfl, hv, hb⟩ := h
  obtain ⟨A, c, rfl, hr⟩ := hv.raw
  exact ⟨A, c, rfl, hr, hb⟩
theorem RetInt.n1 {base : Nat} {w w' : World} {z : Int} {e : Ending} (h : RetInt base w z e w') : RetN1 w z e w' := by
  obtain ⟨v, rfl, hv, hb⟩ := h
  obtain ⟨A, c, rfl, hr⟩ := hv.raw
  exact ⟨A, c, rfl, hr, hb⟩
theorem RetTwo3.n3 {base : Nat} {w w' : World} {z1 z2 k : Int} {e : Ending} (h : RetTwo3 base w z1 z2 k e w') : RetN3 w z1 z2 k e w' := by
  obtain ⟨v1, v2, rfl, hv, hb⟩ := h
  obtain ⟨A, c, rfl, hr⟩ := hv.one.raw
  obtain ⟨B, d, rfl, hs⟩ := hv.two.raw
  exact ⟨A, c, B, d, rfl, hr, hs, hb⟩

section
variable (x y z : Int) (A B : Option Addr) (c d : Nat) (hx : Fit x) (hy : Fit y) (w : World) (h : Raw w A c (natL x.natAbs)) (g : Raw w B d (natL y.natAbs))
include hx hy h g
theorem mul_o (hz : z = x * y) (fz : Fit z) : Calls Tryd.prog 8 #[.agg #[.bool (decide (x < 0)), .slice A (natL x.natAbs).length c], .agg #[.bool (decide (y < 0)), .slice B (natL y.natAbs).length d]] w (RetInt2 w.heap.size w z 0) := by
  have := whole_Mul (decide (x < 0)) (decide (y < 0)) A B c d _ _ w h g
  rw [hx.ok, hy.ok, ival_at, ival_at, ← hz, toldV_fits fz, toldE_fits fz] at this
  exact this
theorem mul_z (hz : z = x * y) (fz : Fit z) : Calls Tryd.prog 8 #[.agg #[.bool (decide (x < 0)), .slice A (natL x.natAbs).length c], .agg #[.bool (decide (y < 0)), .slice B (natL y.natAbs).length d]] w (RetN2 w z 0) :=
  (mul_o x y z A B c d hx hy w h g hz fz).mono fun _ _ q => q.n2
theorem quorem_z (q r : Int) (hy0 : y ≠ 0) (hq : q = x.tdiv y) (hr : r = x.tmod y) : Calls Tryd.prog 15 #[.agg #[.bool (decide (x < 0)), .slice A (natL x.natAbs).length c], .agg #[.bool (decide (y < 0)), .slice B (natL y.natAbs).length d]] w (RetN3 w q r 0) := by
  have := whole_QuoRem (decide (x < 0)) (decide (y < 0)) A B c d _ _ w h g
  unfold quoV remV quoE at this
  have h0 : ¬ (natL y.natAbs).length = 0 := fun e => by
    have := natL_eq_nil.1 (List.eq_nil_of_length_eq_zero e)
    omega
  rw [hx.ok, hy.ok, Bool.and_self, if_pos rfl, if_pos rfl, if_pos rfl, if_neg h0, if_neg h0, if_neg h0, ival_at, ival_at, ← hq, ← hr] at this
  exact this.mono fun e w' q => q.n3
theorem quorem_nought (hy0 : y = 0) (hz0 : z = 0) : Calls Tryd.prog 15 #[.agg #[.bool (decide (x < 0)), .slice A (natL x.natAbs).length c], .agg #[.bool (decide (y < 0)), .slice B (natL y.natAbs).length d]] w (RetN3 w z z 3) := by
  have := whole_QuoRem (decide (x < 0)) (decide (y < 0)) A B c d _ _ w h g
  unfold quoV remV quoE at this
  have h0 : (natL y.natAbs).length = 0 := by rw [hy0]; decide
  rw [hx.ok, hy.ok, Bool.and_self, if_pos rfl, if_pos rfl, if_pos rfl, if_pos h0, if_pos h0, if_pos h0] at this
  rw [hz0]
  exact this.mono fun e w' q => q.n3
theorem cmp_z (k : Int) (hk : k = cmpz x y) : Calls Tryd.prog 11 #[.agg #[.bool (decide (x < 0)), .slice A (natL x.natAbs).length c], .agg #[.bool (decide (y < 0)), .slice B (natL y.natAbs).length d]] w fun e w' => e = .returned (.int .i64 k) ∧ Below w.heap.size w w' := by
  have := whole_Cmp_any (decide (x < 0)) (decide (y < 0)) A B c d _ _ w h g
  rw [hx.ok, hy.ok, Bool.and_self, if_pos rfl, ival_at, ival_at, ← hk] at this
  exact this
omit hx hy in
theorem same_z (b : Bool) (hb : b = decide (x = y)) : Calls Tryd.prog 12 #[.agg #[.bool (decide (x < 0)), .slice A (natL x.natAbs).length c], .agg #[.bool (decide (y < 0)), .slice B (natL y.natAbs).length d]] w fun e w' => e = .returned (.bool b) ∧ Below w.heap.size w w' := by
  have := same_any (decide (x < 0)) (decide (y < 0)) A B c d _ _ w h g
  have e : decide (decide (x < 0) = decide (y < 0) ∧ natL x.natAbs = natL y.natAbs) = b := by
    rw [hb]
    refine decide_eq_decide.2 ⟨fun ⟨h1, h2⟩ => ?_, fun h => by subst h; exact ⟨rfl, rfl⟩⟩
    have h3 : x.natAbs = y.natAbs := by rw [← val_natL x.natAbs, h2, val_natL]
    have h4 : (x < 0 ↔ y < 0) := decide_eq_decide.1 h1
    omega
  rw [e] at this
  exact this
end
theorem of_z (n : Int) (h1 : -9223372036854775808 ≤ n) (h2 : n ≤ 9223372036854775807) (w : World) : Calls Tryd.prog 10 #[.int .i64 n] w (RetN1 w n) := (whole_Of n h1 h2 w).mono fun _ _ q => q.n1
/- Variables that hold numbers. -/

structure NV (w : World) (g : Nat) (z : Int) (A : Option Addr) (c : Nat) : Prop where
  pair : Pair w g 24 (.bool (decide (z < 0))) (.slice A (natL z.natAbs).length c)
  raw : Raw w A c (natL z.natAbs)
theorem NV.below {w w' : World} {g : Nat} {z : Int} {A : Option Addr} {c : Nat} (h : NV w g z A c) (hb : Below w.heap.size w w') : NV w' g z A c := ⟨h.pair.below hb, h.raw.below hb⟩
theorem NV.of {w w' : World} {g : Nat} {z : Int} {A : Option Addr} {c : Nat} (h : Raw w A c (natL z.natAbs)) (hb : Below w.heap.size w w') (p : Pair w' g 24 (.bool (decide (z < 0))) (.slice A (natL z.natAbs).length c)) : NV w' g z A c := ⟨p, h.below hb⟩
structure NR (w : World) (g : Nat) (n : Bool) (A : Option Addr) (c : Nat) (xs : List Nat) : Prop where
  pair : Pair w g 24 (.bool n) (.slice A xs.length c)
  raw : Raw w A c xs
theorem NR.below {w w' : World} {g : Nat} {n : Bool} {A : Option Addr} {c : Nat} {xs : List Nat} (h : NR w g n A c xs) (hb : Below w.heap.size w w') : NR w' g n A c xs := ⟨h.pair.below hb, h.raw.below hb⟩
theorem NR.of {w w' : World} {g : Nat} {n : Bool} {A : Option Addr} {c : Nat} {xs : List Nat} (h : Raw w A c xs) (hb : Below w.heap.size w w') (p : Pair w' g 24 (.bool n) (.slice A xs.length c)) : NR w' g n A c xs := ⟨p, h.below hb⟩
end Go.Proofs.YtkncbenhfcpgkaaDoor
