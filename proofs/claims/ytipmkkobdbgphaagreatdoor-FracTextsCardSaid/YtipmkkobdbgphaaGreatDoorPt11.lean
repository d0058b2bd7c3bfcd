/- Several texts in one: Times, RefMul, Long, Fine. -/
import Derived.Test.YtipmkkobdbgphaaGreatDoorPt06
import Derived.BigQuiet
import Derived.Test.YtipmkkobdbgphaaGreatDoorPtHd
import Derived.Test.YtipmkkobdbgphaaGreatDoorPt09
import Derived.Test.YtipmkkobdbgphaaGreatDoorPt10
set_option maxRecDepth 100000
set_option maxHeartbeats 8000000
/- Times of package exact: what it counts. -/
namespace Go.Proofs.YtipmkkobdbgphaaGreatDoor
open Go.RowKit

structure Mid (w0 wr : World) (g L : Nat) (zs : List Nat) (top : Nat) : Prop where
  len : zs.length = L
  limbs : Limbs zs
  row : Row wr g zs
  low : Below w0.heap.size w0 wr
  nought : ∀ k, top ≤ k → at0 zs k = 0
theorem Mid.set {w0 wr : World} {g L : Nat} {zs : List Nat} {top m d : Nat} (h : Mid w0 wr g L zs top) (hg : w0.heap.size ≤ g) (hm : m < top) (hd : d < 4294967296) : Mid w0 (wr.setCell ⟨g, m, none⟩ (.int .u32 (d : Int))) g L (zs.set m d) top :=
  ⟨by simp [h.len], limbs_set h.limbs hd, h.row.set m d, h.low.setCell (p := ⟨g, m, none⟩) hg _, fun k hk => by rw [at0_set_ne (by omega)]; exact h.nought k hk⟩
theorem Mid.more {w0 wr : World} {g L : Nat} {zs : List Nat} {top : Nat} (h : Mid w0 wr g L zs top) : Mid w0 wr g L zs (top + 1) :=
  ⟨h.len, h.limbs, h.row, h.low, fun k hk => h.nought k (by omega)⟩

/- mul, times of the references: what they count. -/

theorem Mid.drewN {w0 wr : World} {g L : Nat} {zs : List Nat} {top : Nat} (h : Mid w0 wr g L zs top) (n : Nat) : Mid w0 (wr.drewN n) g L zs top :=
  ⟨h.len, h.limbs, ⟨h.row.blk.drewN n⟩, below_drewN h.low n, h.nought⟩

theorem ref_mulN (A B : Option Addr) (c d : Nat) (xs ys : List Nat) (hlx : xs.length ≤ 536870912) (hly : ys.length ≤ 536870912) (w : World) (h : Raw w A c xs) (g : Raw w B d ys) :
    Calls Tryz.prog 237 #[.slice A xs.length c, .slice B ys.length d] w (RetN w.heap.size w (val xs * val ys)) := by
  have hc := h.cap
  have hm := h.most
  have hd := g.cap
  have hn := g.most
  have RX := Hd h
  have RY := Hd g
  clear h g
  obtain ⟨i0, hi, hz0, hz1, hz2⟩ := info_parts limbInfo
  have hmk : ∀ W : World, (Instr.makeSlice 23 (.int .i64 ((xs.length : Int) + (ys.length : Int))) (.int .i64 ((xs.length : Int) + (ys.length : Int)))).run Tryz.prog W = .ok (.slice (some ⟨W.heap.size, 0, none⟩) (xs.length + ys.length) (xs.length + ys.length)) (W.alloc (.cells (madeCells #[.int .u32 0] (xs.length + ys.length)) 104)) := fun W => by
    have h := run_make_rowN (P := Tryz.prog) 23 104 i0 _ Tryz.underlying23 hi hz0 .i64 .i64 (xs.length + ys.length) (xs.length + ys.length) (by omega) (by rw [hz2]; omega) (by omega) W
    rw [show ((xs.length + ys.length : Nat) : Int) = (xs.length : Int) + (ys.length : Int) by omega, hz1, Nat.mul_one] at h
    exact h
  have I0 : Mid w (w.alloc (.cells (madeCells #[.int .u32 0] (xs.length + ys.length)) 104)) w.heap.size (xs.length + ys.length) (List.replicate (xs.length + ys.length) 0) (0 + ys.length) :=
    ⟨by simp, limbs_noughts _, Row.made w _, (Below.refl _ _).alloc (Nat.le_refl _) _, fun k _ => at0_noughts _ _⟩
  have J0 : val (List.replicate (xs.length + ys.length) 0) = val (xs.take 0) * val ys := by simp [val_noughts, val]
  have H0 := Hd (⟨_, I0, J0⟩ : ∃ zs, Mid w (w.alloc (.cells (madeCells #[.int .u32 0] (xs.length + ys.length)) 104)) w.heap.size (xs.length + ys.length) zs (0 + ys.length) ∧ val zs = val (xs.take 0) * val ys)
  clear I0 J0
  go_enter Tryz.func237, Tryz.ntmps237
  go_wp2_with fail
  clear hmk
  go_loopw [6] (fun s wr => ∃ i : Nat, s = .int .i64 i ∧ i ≤ xs.length ∧ Hid (∃ zs, Mid w wr w.heap.size (xs.length + ys.length) zs (i + ys.length) ∧ val zs = val (xs.take i) * val ys)) (fun s _ => xs.length - (intOf s).toNat)
  case atStart => exact ⟨0, rfl, Nat.zero_le _, H0⟩
  case round =>
    obtain ⟨i, rfl, hi', HR⟩ := hrel
    clear H0
    obtain ⟨zs0, hmid0, hv0⟩ := HR.out
    have HV0 := Hd hv0
    clear HR hv0
    by_cases hlt : i < xs.length
    · have a0 : (0 : Int) ≤ (i : Int) := by omega
      have a1 : (i : Int) < (xs.length : Int) := by omega
      obtain ⟨x, hxe⟩ : ∃ x, xs[i] = x := ⟨_, rfl⟩
      have HXE := Hd hxe
      have H1 := Hd (⟨zs0, hmid0, by simp [val]⟩ : ∃ zs, Mid w wr w.heap.size (xs.length + ys.length) zs (i + ys.length) ∧ val zs + 4294967296 ^ (i + 0) * 0 = val zs0 + 4294967296 ^ i * (x * val (ys.take 0)))
      clear hmid0 hxe
      go_wp2_with fail
      go_loopw [7, 8] (fun t s wr => ∃ k cc : Nat, s = .int .i64 k ∧ t = .int .u64 cc ∧ cc < 4294967296 ∧ k ≤ ys.length ∧ Hid (∃ zs, Mid w wr w.heap.size (xs.length + ys.length) zs (i + ys.length) ∧ val zs + 4294967296 ^ (i + k) * cc = val zs0 + 4294967296 ^ i * (x * val (ys.take k)))) (fun _ s _ => ys.length - (intOf s).toNat)
      case atStart => exact ⟨0, 0, rfl, rfl, by omega, Nat.zero_le _, H1⟩
      case round =>
        obtain ⟨k, cc, rfl, rfl, hcc, hk', HR⟩ := hrel
        clear H1
        obtain ⟨zs, hmid, hv⟩ := HR.out
        have HV := Hd hv
        clear HR hv
        by_cases hlk : k < ys.length
        · have e0 : (0 : Int) ≤ (k : Int) := by omega
          have e1 : (k : Int) < (ys.length : Int) := by omega
          have e2 : (0 : Int) ≤ (i : Int) + (k : Int) := by omega
          have e3 : (i : Int) + (k : Int) < (xs.length : Int) + (ys.length : Int) := by omega
          have e4 : IntKind.i64.wrap ((i : Int) + (k : Int)) = (i : Int) + (k : Int) := IntWalk.i64_in _ (by omega)
          have hmk : i + k < zs.length := by rw [hmid.len]; omega
          obtain ⟨ad, rfl, hbl0, hx⟩ := (RX.out.below hmid.low).reads.get hlt
          obtain ⟨bd, rfl, hbl, hy⟩ := (RY.out.below hmid.low).reads.get hlk
          have hbx := limbs_get RX.out.limbs hlt
          have hby := limbs_get RY.out.limbs hlk
          have fz := hmid.row.frozen (i + k)
          have hcell := hmid.row.cell hmk
          have hbo := limbs_get hmid.limbs hmk
          rw [HXE.out] at hx hbx
          generalize hye : ys[k] = y at hy hby
          generalize hze : zs[i + k] = o at hcell hbo
          obtain ⟨hb1, hb2⟩ := mul_bound hbx hby hbo hcc
          rw [show cc + x * y + o = x * y + o + cc by omega] at hb1 hb2
          have HX1 := Hd hbx
          have hl0 := hmid.low.size
          have hlw := hmid.row.lt
          have q1 : (ad.add i).block < wr.heap.size := by rw [block_of_add]; omega
          have q2 : (bd.add k).block < wr.heap.size := by rw [block_of_add]; omega
          have S : ∀ nq : Nat, ∃ zs', Mid w ((wr.drewN nq).setCell ⟨w.heap.size, i + k, none⟩ (.int .u32 (((x * y + o + cc) % 4294967296 : Nat) : Int))) w.heap.size (xs.length + ys.length) zs' (i + ys.length) ∧ val zs' + 4294967296 ^ (i + (k + 1)) * ((x * y + o + cc) / 4294967296) = val zs0 + 4294967296 ^ i * (x * val (ys.take (k + 1))) := fun nq =>
            ⟨zs.set (i + k) ((x * y + o + cc) % 4294967296), (hmid.drewN nq).set (Nat.le_refl _) (by omega) (Nat.mod_lt _ (by omega)), by
            rw [show i + (k + 1) = i + k + 1 by omega, mul_step hmk HV.out (x * y) (x * y + o + cc) (by rw [hze]; omega), val_take_more hlk, hye, Nat.pow_add]
            grind⟩
          have HS := Hd S
          clear hmk hye hze S
          go_wp2_with fail
          go_quiet (fail)
          go_wp2_with fail
          go_roundw
          case rel => exact ⟨k + 1, _, by go_num, rfl, hb2, hlk, Hd (HS.out _)⟩
          case measure => simp [intOf]; omega
        · obtain rfl : k = ys.length := by omega
          have hmk : i + ys.length < zs.length := by rw [hmid.len]; omega
          have e2 : (0 : Int) ≤ (i : Int) + (ys.length : Int) := by omega
          have e3 : (i : Int) + (ys.length : Int) < (xs.length : Int) + (ys.length : Int) := by omega
          have hcc2 : (cc : Int) < 4294967296 := by omega
          have fz := hmid.row.frozen (i + ys.length)
          have hcell := hmid.row.cell hmk
          have hze : zs[i + ys.length] = 0 := by rw [← at0_lt hmk]; exact hmid.nought _ (Nat.le_refl _)
          rw [hze] at hcell
          have S := Hd (⟨zs.set (i + ys.length) cc, by rw [show i + 1 + ys.length = i + ys.length + 1 by omega]; exact hmid.more.set (Nat.le_refl _) (by omega) hcc, by
            rw [mul_last hmk HV.out hze, HV0.out, List.take_length, val_take_more hlt, HXE.out]
            grind⟩ : ∃ zs', Mid w (wr.setCell ⟨w.heap.size, i + ys.length, none⟩ (.int .u32 (cc : Int))) w.heap.size (xs.length + ys.length) zs' (i + 1 + ys.length) ∧ val zs' = val (xs.take (i + 1)) * val ys)
          clear hmid hmk hze
          go_wp2_with fail
          go_roundw
          case rel => exact ⟨i + 1, by go_num, hlt, S⟩
          case measure => simp [intOf]; omega
    · obtain rfl : i = xs.length := by omega
      have hv1 := HV0.out
      rw [List.take_length] at hv1
      have hown := hmid0.row.ownL_cut (base := w.heap.size) (Nat.le_refl _) (by rw [hmid0.len]; omega) hmid0.limbs
      have htrim := fun V (e : V = wr) => ref_trim (some ⟨w.heap.size, 0, none⟩) zs0.length zs0 hmid0.limbs (Nat.le_refl _) (by rw [hmid0.len]; omega) V.heap.size V (e ▸ hmid0.row.reads)
      rw [hmid0.len] at htrim hown
      have C := Hd (htrim wr rfl)
      have HO := Hd hown
      have HE := Hd hv1
      have HB := Hd hmid0.low
      clear hown htrim hv1 HV0 RX RY hmid0
      go_wp2_with (first | (go_at_call 228; with_reducible refine C.out.mono ?_; rintro e w' ⟨rfl, rfl⟩))
      go_ret
      exact ⟨_, rfl, by rw [← HE.out]; exact OwnN.of_ownL HO.out, HB.out⟩
/- Long of package exact and of the references: is one of these too long? -/

theorem Reads.row2 {w : World} {B n k : Nat} {A : Option Addr} {xs : List Value} {a b : Value} (h : Reads w B 2 A n xs) (hk : k < n) (h0 : xs[k * 2]? = some a) (h1 : xs[k * 2 + 1]? = some b) :
    ∃ ad : Addr, A = some ad ∧ ad.block < B ∧ w.cell? (ad.add (k * 2)) = some a ∧ w.cell? ⟨(ad.add (k * 2)).block, (ad.add (k * 2)).off + 1, none⟩ = some b := by
  obtain ⟨ad, e, hb, hc⟩ := h.2 (by omega)
  refine ⟨ad, e, hb, hc _ _ h0, ?_⟩
  rw [← add_more _ _ 1 (by omega)]; exact hc _ _ h1
theorem flat2 {α : Type} (f g : α → Value) : ∀ (l : List α) (k : Nat) (hk : k < l.length), (l.flatMap fun m => [f m, g m])[k * 2]? = some (f l[k]) ∧ (l.flatMap fun m => [f m, g m])[k * 2 + 1]? = some (g l[k])
  | [], k, hk => by simp at hk
  | m :: l, 0, _ => by simp
  | m :: l, k + 1, hk => by
    have ih := flat2 f g l k (by simpa using hk)
    simp only [List.flatMap_cons, show (k + 1) * 2 = k * 2 + 2 by omega]
    simpa using ih
abbrev Loc := Bool × Option Addr × Nat × Nat
def cellsZ (l : List Loc) : List Value := l.flatMap fun m => [.bool m.1, .slice m.2.1 m.2.2.1 m.2.2.2]

theorem long_one (neg : Bool) (A : Option Addr) (k c : Nat) (hk : k ≤ 9223372036854775807) (w : World) :
    Calls Tryz.prog 283 #[.agg #[.bool neg, .slice A k c]] w fun e w' => e = .returned (.bool (decide (2048 < k))) ∧ Below w.heap.size w w' := by
  by_cases h : 2048 < k
  · rw [decide_eq_true h]
    have h2 : (2048 : Int) < (k : Int) := by omega
    clear h
    go_enter Tryz.func283, Tryz.ntmps283
    go_wp2
    go_ret
    exact ⟨by go_num, by repeat (first | exact Below.refl _ _ | refine Below.alloc ?_ (by simp; try omega) _)⟩
  · rw [decide_eq_false h]
    have h2 : (k : Int) ≤ 2048 := by omega
    clear h
    go_enter Tryz.func283, Tryz.ntmps283
    go_wp2
    go_ret
    exact ⟨by go_num, by repeat (first | exact Below.refl _ _ | refine Below.alloc ?_ (by simp; try omega) _)⟩

theorem index_long (A : Option Addr) (c : Nat) (l : List Loc) (hl : l.length ≤ 9223372036854775807) (hs : ∀ x ∈ l, x.2.2.1 ≤ 9223372036854775807) (w : World) (h : Reads w w.heap.size 2 A l.length (cellsZ l)) :
    Calls Tryz.prog 297 #[.slice A l.length c, (.func (.func 283) #[] #[])] w fun e w' => ∃ k : Int, e = .returned (.int .i64 k) ∧ (decide (0 ≤ k) = l.any fun x => decide (2048 < x.2.2.1)) ∧ Below w.heap.size w w' := by
  have HR := Hd h
  have HS := Hd hs
  clear h hs
  have H0 := Hd (by intro j hj; omega : ∀ j (hj : j < 0), (h : j < l.length) → ¬ 2048 < l[j].2.2.1)
  go_enter Tryz.func297, Tryz.ntmps297
  go_wp2_with fail
  go_loopw [8] (fun s wr => ∃ i : Nat, s = .int .i64 i ∧ i ≤ l.length ∧ Hid (∀ j (hj : j < i), (h : j < l.length) → ¬ 2048 < l[j].2.2.1) ∧ Below w.heap.size w wr) (fun s _ => l.length - (intOf s).toNat)
  case atStart => exact ⟨0, rfl, Nat.zero_le _, H0, Below.refl _ _⟩
  case round =>
    obtain ⟨i, rfl, hi, HN, hb⟩ := hrel
    clear H0
    by_cases hlt : i < l.length
    · have a0 : (0 : Int) ≤ (i : Int) := by omega
      have a1 : (i : Int) < (l.length : Int) := by omega
      obtain ⟨e0, e1⟩ := flat2 (fun m : Loc => Value.bool m.1) (fun m : Loc => Value.slice m.2.1 m.2.2.1 m.2.2.2) l i hlt
      obtain ⟨ad, rfl, hbl, c0, c1⟩ := (HR.out.below hb).row2 hlt e0 e1
      have C := Hd (fun V => long_one l[i].1 l[i].2.1 l[i].2.2.1 l[i].2.2.2 (HS.out _ (List.getElem_mem hlt)) V)
      have HB := Hd hb
      clear e0 e1 hbl hb
      by_cases hlong : 2048 < l[i].2.2.1
      · rw [decide_eq_true hlong] at C
        have HL := Hd hlong
        clear hlong
        go_wp2_with (first | (go_at_call 283; with_reducible refine (C.out _).mono ?_; rintro e w' ⟨rfl, hb'⟩))
        go_ret
        refine ⟨_, rfl, ?_, belowTo HB.out hb'⟩
        rw [decide_eq_true (by omega), eq_comm, List.any_eq_true]
        exact ⟨l[i], List.getElem_mem hlt, decide_eq_true HL.out⟩
      · rw [decide_eq_false hlong] at C
        have HL := Hd hlong
        clear hlong
        go_wp2_with (first | (go_at_call 283; with_reducible refine (C.out _).mono ?_; rintro e w' ⟨rfl, hb'⟩))
        go_roundw
        case rel =>
          refine ⟨i + 1, by go_num, hlt, Hd fun j hj h => ?_, belowTo HB.out hb'⟩
          rcases (by omega : j < i ∨ j = i) with hj | rfl
          · exact HN.out j hj h
          · exact HL.out
        case measure => simp [intOf]; omega
    · have HB := Hd hb
      clear hb
      go_wp2_with fail
      go_ret
      refine ⟨_, rfl, ?_, HB.out⟩
      rw [decide_eq_false (by omega), eq_comm, List.any_eq_false]
      intro x hx
      obtain ⟨j, hj, rfl⟩ := List.getElem_of_mem hx
      simpa using HN.out j (by omega) hj

theorem contains_long (A : Option Addr) (c : Nat) (l : List Loc) (hl : l.length ≤ 9223372036854775807) (hs : ∀ x ∈ l, x.2.2.1 ≤ 9223372036854775807) (w : World) (h : Reads w w.heap.size 2 A l.length (cellsZ l)) :
    Calls Tryz.prog 282 #[.slice A l.length c, (.func (.func 283) #[] #[])] w fun e w' => e = .returned (.bool (l.any fun x => decide (2048 < x.2.2.1))) ∧ Below w.heap.size w w' := by
  have C := Hd (index_long A c l hl hs w h)
  clear h hs
  generalize (l.any fun x => decide (2048 < x.2.2.1)) = b at C ⊢
  go_enter Tryz.func282, Tryz.ntmps282
  go_wp2_with fail
  refine C.out.mono ?_
  rintro e w' ⟨k, rfl, rfl, hb⟩
  go_wp2_with fail
  go_ret
  exact ⟨rfl, hb⟩
theorem exact_Long (A : Option Addr) (c : Nat) (l : List Loc) (hl : l.length ≤ 9223372036854775807) (hs : ∀ x ∈ l, x.2.2.1 ≤ 9223372036854775807) (w : World) (h : Reads w w.heap.size 2 A l.length (cellsZ l)) :
    Calls Tryz.prog 260 #[.slice A l.length c] w fun e w' => e = .returned (.bool (l.any fun x => decide (2048 < x.2.2.1))) ∧ Below w.heap.size w w' := by
  have C := Hd (contains_long A c l hl hs w h)
  clear h hs
  generalize (l.any fun x => decide (2048 < x.2.2.1)) = b at C ⊢
  go_enter Tryz.func260, Tryz.ntmps260
  go_wp2_with fail
  refine C.out.mono ?_
  rintro e w' ⟨rfl, hb⟩
  go_wp2_with fail
  go_ret
  exact ⟨rfl, hb⟩

theorem ref_Long (neg : Bool) (A : Option Addr) (k c : Nat) (hk : k ≤ 9223372036854775807) (w : World) :
    Calls Tryz.prog 231 #[.agg #[.bool neg, .slice A k c]] w fun e w' => e = .returned (.bool (decide (2048 < k))) ∧ Below w.heap.size w w' := by
  by_cases h : 2048 < k
  · rw [decide_eq_true h]
    have h2 : (2048 : Int) < (k : Int) := by omega
    clear h
    go_enter Tryz.func231, Tryz.ntmps231
    go_wp2
    go_ret
    exact ⟨by go_num, by repeat (first | exact Below.refl _ _ | refine Below.alloc ?_ (by simp; try omega) _)⟩
  · rw [decide_eq_false h]
    have h2 : (k : Int) ≤ 2048 := by omega
    clear h
    go_enter Tryz.func231, Tryz.ntmps231
    go_wp2
    go_ret
    exact ⟨by go_num, by repeat (first | exact Below.refl _ _ | refine Below.alloc ?_ (by simp; try omega) _)⟩
/- fine, Cmp of package whole and of the references. (Written by wip/exact/genfine.py.) -/

end Go.Proofs.YtipmkkobdbgphaaGreatDoor
