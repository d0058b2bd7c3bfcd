/- Several texts in one: RefMul, Long, Fine. -/
import Derived.Test.YtkncbenhfcpgkaaDoorBu06
import Derived.Test.YtkncbenhfcpgkaaDoorBu12
import Derived.Test.YtkncbenhfcpgkaaDoorBu05
import Derived.Test.YtkncbenhfcpgkaaDoorBu02
import Derived.Test.YtkncbenhfcpgkaaDoorBu04
import Derived.Test.YtkncbenhfcpgkaaDoorBu03
import Derived.Test.YtkncbenhfcpgkaaDoorBu01
import Derived.Test.YtkncbenhfcpgkaaDoorBu11
import Derived.Test.YtkncbenhfcpgkaaDoorBuHd
import Derived.Test.YtkncbenhfcpgkaaDoorBu10
import Derived.Test.YtkncbenhfcpgkaaDoorBu09
import Derived.Test.YtkncbenhfcpgkaaDoorBu08
set_option maxRecDepth 100000
set_option maxHeartbeats 8000000
/- mul, times of the references: what they count. -/
namespace Go.Proofs.YtkncbenhfcpgkaaDoor
open Go.RowKit

theorem Mid.drewN {w0 wr : World} {g L : Nat} {zs : List Nat} {top : Nat} (h : Mid w0 wr g L zs top) (n : Nat) : Mid w0 (wr.drewN n) g L zs top :=
  ⟨h.len, h.limbs, ⟨h.row.blk.drewN n⟩, below_drewN h.low n, h.nought⟩

/- Long of package exact and of the references: is one of these too long? -/

theorem Reads.row2 {w : World} {B n k : Nat} {A : Option Addr} {xs : List Value} {a b : Value} (h : Reads w B 2 A n xs) (hk : k < n) (h0 : xs[k * 2]? = some a) (h1 : xs[k * 2 + 1]? = some b) :
    ∃ ad : Addr, A = some ad ∧ ad.block < B ∧ w.cell? (ad.add (k * 2)) = some a ∧ w.cell? ⟨(ad.add (k * 2)).block, (ad.add (k * 2)).off + 1, none⟩ = some b := by
  obtain ⟨ad, e, hb, hc⟩ := h.2 (by omega)
  refine ⟨ad, e, hb, hc _ _ h0, ?_⟩
  rw [← add_more _ _ 1 (by omega)]; exact hc _ _ h1
theorem flat2 {α : Type} (f g : α → Value) : ∀ (l : List α) (k : Nat) (hk : k < l.length), (l.flatMap fun m => [f m, g m])[k * 2]? = some (f l[k]) ∧ (l.flatMap fun m => [f m, g m])[k * 2 + 1]? = some (g l[k])
  | [], k, hk => by simp at hk
  | m :: l, 0, _ => by simp
  | m :: l, k + 1, hk => by
    have ih := flat2 f g l k (by simpa using hk)
    simp only [List.flatMap_cons, show (k + 1) * 2 = k * 2 + 2 by omega]
    simpa using ih
abbrev Loc := Bool × Option Addr × Nat × Nat
def cellsZ (l : List Loc) : List Value := l.flatMap fun m => [.bool m.1, .slice m.2.1 m.2.2.1 m.2.2.2]

theorem long_one (neg : Bool) (A : Option Addr) (k c : Nat) (hk : k ≤ 9223372036854775807) (w : World) :
    Calls Tryd.prog 52 #[.agg #[.bool neg, .slice A k c]] w fun e w' => e = .returned (.bool (decide (2048 < k))) ∧ Below w.heap.size w w' := by
  by_cases h : 2048 < k
  · rw [decide_eq_true h]
    have h2 : (2048 : Int) < (k : Int) := by omega
    clear h
    go_enter Tryd.func52, Tryd.ntmps52
    go_wp2
    go_ret
    exact ⟨by go_num, by repeat (first | exact Below.refl _ _ | refine Below.alloc ?_ (by simp; try omega) _)⟩
  · rw [decide_eq_false h]
    have h2 : (k : Int) ≤ 2048 := by omega
    clear h
    go_enter Tryd.func52, Tryd.ntmps52
    go_wp2
    go_ret
    exact ⟨by go_num, by repeat (first | exact Below.refl _ _ | refine Below.alloc ?_ (by simp; try omega) _)⟩

theorem index_long (A : Option Addr) (c : Nat) (l : List Loc) (hl : l.length ≤ 9223372036854775807) (hs : ∀ x ∈ l, x.2.2.1 ≤ 9223372036854775807) (w : World) (h : Reads w w.heap.size 2 A l.length (cellsZ l)) :
    Calls Tryd.prog 61 #[.slice A l.length c, (.func (.func 52) #[] #[])] w fun e w' => ∃ k : Int, e = .returned (.int .i64 k) ∧ (decide (0 ≤ k) = l.any fun x => decide (2048 < x.2.2.1)) ∧ Below w.heap.size w w' := by
  have HR := Hd h
  have HS := Hd hs
  clear h hs
  have H0 := Hd (by intro j hj; omega : ∀ j (hj : j < 0), (h : j < l.length) → ¬ 2048 < l[j].2.2.1)
  go_enter Tryd.func61, Tryd.ntmps61
  go_wp2_with fail
  go_loopw [8] (fun s wr => ∃ i : Nat, s = .int .i64 i ∧ i ≤ l.length ∧ Hid (∀ j (hj : j < i), (h : j < l.length) → ¬ 2048 < l[j].2.2.1) ∧ Below w.heap.size w wr) (fun s _ => l.length - (intOf s).toNat)
  case atStart => exact ⟨0, rfl, Nat.zero_le _, H0, Below.refl _ _⟩
  case round =>
    obtain ⟨i, rfl, hi, HN, hb⟩ := hrel
    clear H0
    by_cases hlt : i < l.length
    · have a0 : (0 : Int) ≤ (i : Int) := by omega
      have a1 : (i : Int) < (l.length : Int) := by omega
      obtain ⟨e0, e1⟩ := flat2 (fun m : Loc => Value.bool m.1) (fun m : Loc => Value.slice m.2.1 m.2.2.1 m.2.2.2) l i hlt
      obtain ⟨ad, rfl, hbl, c0, c1⟩ := (HR.out.below hb).row2 hlt e0 e1
      have C := Hd (fun V => long_one l[i].1 l[i].2.1 l[i].2.2.1 l[i].2.2.2 (HS.out _ (List.getElem_mem hlt)) V)
      have HB := Hd hb
      clear e0 e1 hbl hb
      by_cases hlong : 2048 < l[i].2.2.1
      · rw [decide_eq_true hlong] at C
        have HL := Hd hlong
        clear hlong
        go_wp2_with (first | (go_at_call 52; with_reducible refine (C.out _).mono ?_; rintro e w' ⟨rfl, hb'⟩))
        go_ret
        refine ⟨_, rfl, ?_, belowTo HB.out hb'⟩
        rw [decide_eq_true (by omega), eq_comm, List.any_eq_true]
        exact ⟨l[i], List.getElem_mem hlt, decide_eq_true HL.out⟩
      · rw [decide_eq_false hlong] at C
        have HL := Hd hlong
        clear hlong
        go_wp2_with (first | (go_at_call 52; with_reducible refine (C.out _).mono ?_; rintro e w' ⟨rfl, hb'⟩))
        go_roundw
        case rel =>
          refine ⟨i + 1, by go_num, hlt, Hd fun j hj h => ?_, belowTo HB.out hb'⟩
          rcases (by omega : j < i ∨ j = i) with hj | rfl
          · exact HN.out j hj h
          · exact HL.out
        case measure => simp [intOf]; omega
    · have HB := Hd hb
      clear hb
      go_wp2_with fail
      go_ret
      refine ⟨_, rfl, ?_, HB.out⟩
      rw [decide_eq_false (by omega), eq_comm, List.any_eq_false]
      intro x hx
      obtain ⟨j, hj, rfl⟩ := List.getElem_of_mem hx
      simpa using HN.out j (by omega) hj

theorem contains_long (A : Option Addr) (c : Nat) (l : List Loc) (hl : l.length ≤ 9223372036854775807) (hs : ∀ x ∈ l, x.2.2.1 ≤ 9223372036854775807) (w : World) (h : Reads w w.heap.size 2 A l.length (cellsZ l)) :
    Calls Tryd.prog 51 #[.slice A l.length c, (.func (.func 52) #[] #[])] w fun e w' => e = .returned (.bool (l.any fun x => decide (2048 < x.2.2.1))) ∧ Below w.heap.size w w' := by
  have C := Hd (index_long A c l hl hs w h)
  clear h hs
  generalize (l.any fun x => decide (2048 < x.2.2.1)) = b at C ⊢
  go_enter Tryd.func51, Tryd.ntmps51
  go_wp2_with fail
  refine C.out.mono ?_
  rintro e w' ⟨k, rfl, rfl, hb⟩
  go_wp2_with fail
  go_ret
  exact ⟨rfl, hb⟩
theorem exact_Long (A : Option Addr) (c : Nat) (l : List Loc) (hl : l.length ≤ 9223372036854775807) (hs : ∀ x ∈ l, x.2.2.1 ≤ 9223372036854775807) (w : World) (h : Reads w w.heap.size 2 A l.length (cellsZ l)) :
    Calls Tryd.prog 32 #[.slice A l.length c] w fun e w' => e = .returned (.bool (l.any fun x => decide (2048 < x.2.2.1))) ∧ Below w.heap.size w w' := by
  have C := Hd (contains_long A c l hl hs w h)
  clear h hs
  generalize (l.any fun x => decide (2048 < x.2.2.1)) = b at C ⊢
  go_enter Tryd.func32, Tryd.ntmps32
  go_wp2_with fail
  refine C.out.mono ?_
  rintro e w' ⟨rfl, hb⟩
  go_wp2_with fail
  go_ret
  exact ⟨rfl, hb⟩

/- fine, Cmp of package whole and of the references. (Written by wip/exact/genfine.py.) -/

theorem whole_fine_any (n1 n2 : Bool) (A B : Option Addr) (c d : Nat) (xs ys : List Nat) (w : World) (h : Raw w A c xs) (g : Raw w B d ys) :
    Calls Tryd.prog 20 #[.agg #[.bool n1, .slice A xs.length c], .agg #[.bool n2, .slice B ys.length d]] w fun e w' => e = .returned (.bool (okI n1 xs && okI n2 ys)) ∧ Below w.heap.size w w' := by
  by_cases o1 : okI n1 xs = true
  · have e1 : errI n1 xs = 0 := by simp [errI, o1]
    by_cases o2 : okI n2 ys = true
    · have e2 : errI n2 ys = 0 := by simp [errI, o2]
      rw [o1, o2]
      have E1 := Hd e1
      have E2 := Hd e2
      clear o1 o2 e1 e2
      have p0 := (Pair.new w 24 (.bool n1) (.slice A xs.length c)).alloc (.cells #[.bool n2, .slice B ys.length d] 24)
      have q0 := Pair.new (w.alloc (.cells #[.bool n1, .slice A xs.length c] 24)) 24 (.bool n2) (.slice B ys.length d)
      have b0 := ((Below.refl w.heap.size w).alloc (Nat.le_refl _) (.cells #[.bool n1, .slice A xs.length c] 24)).alloc (by simp) (.cells #[.bool n2, .slice B ys.length d] 24)
      have hx := (h.alloc (.cells #[.bool n1, .slice A xs.length c] 24)).alloc (.cells #[.bool n2, .slice B ys.length d] 24)
      have hy := (g.alloc (.cells #[.bool n1, .slice A xs.length c] 24)).alloc (.cells #[.bool n2, .slice B ys.length d] 24)
      simp only [World.size_alloc] at q0
      clear h g
      go_enter Tryd.func20, Tryd.ntmps20
      go_wp2_with fail
      refine (exact_Check_any n1 A c xs _ hx).mono ?_
      rintro e w1 ⟨rfl, q1⟩
      rw [E1.out]
      have q2 := q0.below q1
      obtain ⟨k2, d0, d1, -, -⟩ := q2.facts
      have b1 := b0.trans (q1.mono b0.size)
      have hy1 := hy.below q1
      clear p0 q0 b0 hx hy q1
      go_wp2_with fail
      refine (exact_Check_any n2 B d ys _ hy1).mono ?_
      rintro e w2 ⟨rfl, q1⟩
      rw [E2.out]
      clear d0 d1
      go_wp2
      go_ret
      exact ⟨rfl, belowTo b1 q1⟩
    · have e2 : errI n2 ys = 1 := by simp [errI, o2]
      have o2' : okI n2 ys = false := by simpa using o2
      rw [o1, o2']
      have E1 := Hd e1
      have E2 := Hd e2
      clear o1 o2 o2' e1 e2
      have p0 := (Pair.new w 24 (.bool n1) (.slice A xs.length c)).alloc (.cells #[.bool n2, .slice B ys.length d] 24)
      have q0 := Pair.new (w.alloc (.cells #[.bool n1, .slice A xs.length c] 24)) 24 (.bool n2) (.slice B ys.length d)
      have b0 := ((Below.refl w.heap.size w).alloc (Nat.le_refl _) (.cells #[.bool n1, .slice A xs.length c] 24)).alloc (by simp) (.cells #[.bool n2, .slice B ys.length d] 24)
      have hx := (h.alloc (.cells #[.bool n1, .slice A xs.length c] 24)).alloc (.cells #[.bool n2, .slice B ys.length d] 24)
      have hy := (g.alloc (.cells #[.bool n1, .slice A xs.length c] 24)).alloc (.cells #[.bool n2, .slice B ys.length d] 24)
      simp only [World.size_alloc] at q0
      clear h g
      go_enter Tryd.func20, Tryd.ntmps20
      go_wp2_with fail
      refine (exact_Check_any n1 A c xs _ hx).mono ?_
      rintro e w1 ⟨rfl, q1⟩
      rw [E1.out]
      have q2 := q0.below q1
      obtain ⟨k2, d0, d1, -, -⟩ := q2.facts
      have b1 := b0.trans (q1.mono b0.size)
      have hy1 := hy.below q1
      clear p0 q0 b0 hx hy q1
      go_wp2_with fail
      refine (exact_Check_any n2 B d ys _ hy1).mono ?_
      rintro e w2 ⟨rfl, q1⟩
      rw [E2.out]
      clear d0 d1
      go_wp2
      go_ret
      exact ⟨rfl, belowTo b1 q1⟩
  · have e1 : errI n1 xs = 1 := by simp [errI, o1]
    have o1' : okI n1 xs = false := by simpa using o1
    rw [o1', Bool.false_and]
    have E1 := Hd e1
    clear o1 o1' e1
    have p0 := (Pair.new w 24 (.bool n1) (.slice A xs.length c)).alloc (.cells #[.bool n2, .slice B ys.length d] 24)
    have q0 := Pair.new (w.alloc (.cells #[.bool n1, .slice A xs.length c] 24)) 24 (.bool n2) (.slice B ys.length d)
    have b0 := ((Below.refl w.heap.size w).alloc (Nat.le_refl _) (.cells #[.bool n1, .slice A xs.length c] 24)).alloc (by simp) (.cells #[.bool n2, .slice B ys.length d] 24)
    have hx := (h.alloc (.cells #[.bool n1, .slice A xs.length c] 24)).alloc (.cells #[.bool n2, .slice B ys.length d] 24)
    have hy := (g.alloc (.cells #[.bool n1, .slice A xs.length c] 24)).alloc (.cells #[.bool n2, .slice B ys.length d] 24)
    simp only [World.size_alloc] at q0
    clear h g
    go_enter Tryd.func20, Tryd.ntmps20
    go_wp2_with fail
    refine (exact_Check_any n1 A c xs _ hx).mono ?_
    rintro e w1 ⟨rfl, q1⟩
    rw [E1.out]
    have b1 := b0.trans (q1.mono b0.size)
    clear p0 q0 b0 hx hy q1
    go_wp2
    go_ret
    exact ⟨rfl, b1⟩

end Go.Proofs.YtkncbenhfcpgkaaDoor
