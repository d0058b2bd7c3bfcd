/- Several texts in one: Times, RefMul, Long, Fine, Ops. -/
import Derived.Test.YtmcnmoljliggfaaGreatDoorBt05
set_option maxRecDepth 100000
set_option maxHeartbeats 8000000
/- Times of package exact: what it counts. -/
namespace Go.Proofs.YtmcnmoljliggfaaGreatDoor
open Go.RowKit

structure Mid (w0 wr : World) (g L : Nat) (zs : List Nat) (top : Nat) : Prop where
  len : zs.length = L
  limbs : Limbs zs
  row : Row wr g zs
  low : Below w0.heap.size w0 wr
  nought : ∀ k, top ≤ k → at0 zs k = 0
theorem Mid.set {w0 wr : World} {g L : Nat} {zs : List Nat} {top m d : Nat} (h : Mid w0 wr g L zs top) (hg : w0.heap.size ≤ g) (hm : m < top) (hd : d < 4294967296) : Mid w0 (wr.setCell ⟨g, m, none⟩ (.int .u32 (d : Int))) g L (zs.set m d) top :=
  ⟨by simp [h.len], limbs_set h.limbs hd, h.row.set m d, h.low.setCell (p := ⟨g, m, none⟩) hg _, fun k hk => by rw [at0_set_ne (by omega)]; exact h.nought k hk⟩
theorem Mid.more {w0 wr : World} {g L : Nat} {zs : List Nat} {top : Nat} (h : Mid w0 wr g L zs top) : Mid w0 wr g L zs (top + 1) :=
  ⟨h.len, h.limbs, h.row, h.low, fun k hk => h.nought k (by omega)⟩

theorem exact_Times_own (n1 n2 : Bool) (A B : Option Addr) (c d : Nat) (xs ys : List Nat) (hlx : xs.length ≤ 536870912) (hly : ys.length ≤ 536870912) (z : Int) (HZV : Hid (z = if (n1 != n2) then -((val xs * val ys : Nat) : Int) else ((val xs * val ys : Nat) : Int))) (w : World) (h : Raw w A c xs) (g : Raw w B d ys) :
    Calls Tryz.prog 71 #[.agg #[.bool n1, .slice A xs.length c], .agg #[.bool n2, .slice B ys.length d]] w (RetInt w.heap.size w z) := by
  have hc := h.cap
  have hm := h.most
  have hd := g.cap
  have hn := g.most
  have px := ((Pair.new w 25 (.bool n1) (.slice A xs.length c)).alloc (.cells #[.bool n2, .slice B ys.length d] 25)).alloc (.cells #[.bool false, .slice none 0 0] 25)
  have py := (Pair.new (w.alloc (.cells #[.bool n1, .slice A xs.length c] 25)) 25 (.bool n2) (.slice B ys.length d)).alloc (.cells #[.bool false, .slice none 0 0] 25)
  have pr := Pair.new ((w.alloc (.cells #[.bool n1, .slice A xs.length c] 25)).alloc (.cells #[.bool n2, .slice B ys.length d] 25)) 25 (.bool false) (.slice none 0 0)
  have rx := (((h.alloc (.cells #[.bool n1, .slice A xs.length c] 25)).alloc (.cells #[.bool n2, .slice B ys.length d] 25)).alloc (.cells #[.bool false, .slice none 0 0] 25))
  have ry := (((g.alloc (.cells #[.bool n1, .slice A xs.length c] 25)).alloc (.cells #[.bool n2, .slice B ys.length d] 25)).alloc (.cells #[.bool false, .slice none 0 0] 25))
  have b0 := (((Below.refl w.heap.size w).alloc (Nat.le_refl _) (.cells #[.bool n1, .slice A xs.length c] 25)).alloc (by simp) (.cells #[.bool n2, .slice B ys.length d] 25)).alloc (by simp; omega) (.cells #[.bool false, .slice none 0 0] 25)
  simp only [World.size_alloc] at py pr
  clear h g
  obtain ⟨i0, hi, hz0, hz1, hz2⟩ := info_parts limbInfo
  have hmk : ∀ W : World, (Instr.makeSlice 23 (.int .i64 ((xs.length : Int) + (ys.length : Int))) (.int .i64 ((xs.length : Int) + (ys.length : Int)))).run Tryz.prog W = .ok (.slice (some ⟨W.heap.size, 0, none⟩) (xs.length + ys.length) (xs.length + ys.length)) (W.alloc (.cells (madeCells #[.int .u32 0] (xs.length + ys.length)) 109)) := fun W => by
    have h := run_make_rowN (P := Tryz.prog) 23 109 i0 _ Tryz.underlying23 hi hz0 .i64 .i64 (xs.length + ys.length) (xs.length + ys.length) (by omega) (by rw [hz2]; omega) (by omega) W
    rw [show ((xs.length + ys.length : Nat) : Int) = (xs.length : Int) + (ys.length : Int) by omega, hz1, Nat.mul_one] at h
    exact h
  go_enter Tryz.func71, Tryz.ntmps71
  go_wp2_with fail
  obtain ⟨W, E⟩ : ∃ W, W = ((w.alloc (.cells #[.bool n1, .slice A xs.length c] 25)).alloc (.cells #[.bool n2, .slice B ys.length d] 25)).alloc (.cells #[.bool false, .slice none 0 0] 25) := ⟨_, rfl⟩
  rw [← E] at px py pr b0 rx ry ⊢
  clear E
  obtain ⟨l1, x0, x1, -, -⟩ := px.facts
  obtain ⟨l2, y0, y1, -, -⟩ := py.facts
  have PX := Hd px
  have PY := Hd py
  have PR := Hd pr
  have RX := Hd rx
  have RY := Hd ry
  have B0 := Hd b0
  clear px py pr rx ry b0
  go_quiet (fail)
  have I0 : Mid W ((W.drewN nq).alloc (.cells (madeCells #[.int .u32 0] (xs.length + ys.length)) 109)) W.heap.size (xs.length + ys.length) (List.replicate (xs.length + ys.length) 0) (0 + ys.length) :=
    ⟨by simp, limbs_noughts _, Row.made (W.drewN nq) _, (below_drewN (Below.refl _ _) nq).alloc (Nat.le_refl _) _, fun k _ => at0_noughts _ _⟩
  have J0 : val (List.replicate (xs.length + ys.length) 0) = val (xs.take 0) * val ys := by simp [val_noughts, val]
  have H0 := Hd (⟨_, I0, J0⟩ : ∃ zs, Mid W ((W.drewN nq).alloc (.cells (madeCells #[.int .u32 0] (xs.length + ys.length)) 109)) W.heap.size (xs.length + ys.length) zs (0 + ys.length) ∧ val zs = val (xs.take 0) * val ys)
  clear I0 J0 l1 x0 x1 l2 y0 y1
  go_wp2_with fail
  clear hmk
  go_loopw [25] (fun s wr => ∃ i : Nat, s = .int .i64 i ∧ i ≤ xs.length ∧ Hid (∃ zs, Mid W wr W.heap.size (xs.length + ys.length) zs (i + ys.length) ∧ val zs = val (xs.take i) * val ys)) (fun s _ => xs.length - (intOf s).toNat)
  case atStart => exact ⟨0, rfl, Nat.zero_le _, H0⟩
  case round =>
    obtain ⟨i, rfl, hi', HR⟩ := hrel
    clear H0
    obtain ⟨zs0, hmid0, hv0⟩ := HR.out
    have HV0 := Hd hv0
    clear HR hv0
    by_cases hlt : i < xs.length
    · have a0 : (0 : Int) ≤ (i : Int) := by omega
      have a1 : (i : Int) < (xs.length : Int) := by omega
      obtain ⟨ad, rfl, hbl, hx⟩ := (RX.out.below hmid0.low).reads.get hlt
      have hbx := Hd (limbs_get RX.out.limbs hlt)
      generalize hxe : xs[i] = x at hx hbx
      have HXE := Hd hxe
      clear hxe
      have H1 := Hd (⟨zs0, hmid0, by simp [val]⟩ : ∃ zs, Mid W wr W.heap.size (xs.length + ys.length) zs (i + ys.length) ∧ val zs + 4294967296 ^ (i + 0) * 0 = val zs0 + 4294967296 ^ i * (x * val (ys.take 0)))
      clear hmid0 hbl
      go_wp2_with fail
      go_loopw [10, 32] (fun t s wr => ∃ k cc : Nat, s = .int .i64 k ∧ t = .int .u64 cc ∧ cc < 4294967296 ∧ k ≤ ys.length ∧ Hid (∃ zs, Mid W wr W.heap.size (xs.length + ys.length) zs (i + ys.length) ∧ val zs + 4294967296 ^ (i + k) * cc = val zs0 + 4294967296 ^ i * (x * val (ys.take k)))) (fun _ s _ => ys.length - (intOf s).toNat)
      case atStart => exact ⟨0, 0, rfl, rfl, by omega, Nat.zero_le _, H1⟩
      case round =>
        obtain ⟨k, cc, rfl, rfl, hcc, hk', HR⟩ := hrel
        clear H1 hx
        obtain ⟨zs, hmid, hv⟩ := HR.out
        have HV := Hd hv
        clear HR hv
        by_cases hlk : k < ys.length
        · have e0 : (0 : Int) ≤ (k : Int) := by omega
          have e1 : (k : Int) < (ys.length : Int) := by omega
          have e2 : (0 : Int) ≤ (i : Int) + (k : Int) := by omega
          have e3 : (i : Int) + (k : Int) < (xs.length : Int) + (ys.length : Int) := by omega
          have hmk : i + k < zs.length := by rw [hmid.len]; omega
          obtain ⟨bd, rfl, hbl, hy⟩ := (RY.out.below hmid.low).reads.get hlk
          have hby := limbs_get RY.out.limbs hlk
          have fz := hmid.row.frozen (i + k)
          have hcell := hmid.row.cell hmk
          have hbo := limbs_get hmid.limbs hmk
          generalize hye : ys[k] = y at hy hby
          generalize hze : zs[i + k] = o at hcell hbo
          obtain ⟨hb1, hb2⟩ := mul_bound hbx.out hby hbo hcc
          have S := Hd (⟨zs.set (i + k) ((cc + x * y + o) % 4294967296), hmid.set (Nat.le_refl _) (by omega) (Nat.mod_lt _ (by omega)), by
            rw [show i + (k + 1) = i + k + 1 by omega, mul_step hmk HV.out (x * y) (cc + x * y + o) (by rw [hze]), val_take_more hlk, hye, Nat.pow_add]
            grind⟩ : ∃ zs', Mid W (wr.setCell ⟨W.heap.size, i + k, none⟩ (.int .u32 (((cc + x * y + o) % 4294967296 : Nat) : Int))) W.heap.size (xs.length + ys.length) zs' (i + ys.length) ∧ val zs' + 4294967296 ^ (i + (k + 1)) * ((cc + x * y + o) / 4294967296) = val zs0 + 4294967296 ^ i * (x * val (ys.take (k + 1))))
          clear hmid hmk hye hze hbl
          go_wp2_with fail
          have e : IntKind.u64.wrap ((cc : Int) + IntKind.u64.wrap (IntKind.u64.wrap (IntKind.u64.wrap (x : Int) * (y : Int)) + (o : Int))) = ((cc + x * y + o : Nat) : Int) := by
            have hx1 := hbx.out
            have hx2 : (x : Int) % 18446744073709551616 = x := by omega
            have hp : (x : Int) * (y : Int) = ((x * y : Nat) : Int) := (Int.natCast_mul x y).symm
            simp only [IntKind.wrap_u64]
            rw [hx2, hp]
            generalize x * y = p at hb1
            omega
          rw [e, show ((cc + x * y + o : Nat) : Int) / 4294967296 = (((cc + x * y + o) / 4294967296 : Nat) : Int) by omega, show ((cc + x * y + o : Nat) : Int) % 4294967296 = (((cc + x * y + o) % 4294967296 : Nat) : Int) by omega]
          go_roundw
          case rel => exact ⟨k + 1, _, by go_num, rfl, hb2, hlk, S⟩
          case measure => simp [intOf]; omega
        · obtain rfl : k = ys.length := by omega
          have hmk : i + ys.length < zs.length := by rw [hmid.len]; omega
          have e2 : (0 : Int) ≤ (i : Int) + (ys.length : Int) := by omega
          have e3 : (i : Int) + (ys.length : Int) < (xs.length : Int) + (ys.length : Int) := by omega
          have hcc2 : (cc : Int) < 4294967296 := by omega
          have fz := hmid.row.frozen (i + ys.length)
          have hcell := hmid.row.cell hmk
          have hze : zs[i + ys.length] = 0 := by rw [← at0_lt hmk]; exact hmid.nought _ (Nat.le_refl _)
          rw [hze] at hcell
          have S := Hd (⟨zs.set (i + ys.length) cc, by rw [show i + 1 + ys.length = i + ys.length + 1 by omega]; exact hmid.more.set (Nat.le_refl _) (by omega) hcc, by
            rw [mul_last hmk HV.out hze, HV0.out, List.take_length, val_take_more hlt, HXE.out]
            grind⟩ : ∃ zs', Mid W (wr.setCell ⟨W.heap.size, i + ys.length, none⟩ (.int .u32 (cc : Int))) W.heap.size (xs.length + ys.length) zs' (i + 1 + ys.length) ∧ val zs' = val (xs.take (i + 1)) * val ys)
          clear hmid hmk hze
          go_wp2_with fail
          go_roundw
          case rel => exact ⟨i + 1, by go_num, hlt, S⟩
          case measure => simp [intOf]; omega
    · obtain rfl : i = xs.length := by omega
      have hown := hmid0.row.ownL (base := W.heap.size) (Nat.le_refl _) (by rw [hmid0.len]; omega) hmid0.limbs
      have hv1 := HV0.out
      rw [List.take_length] at hv1
      rw [hv1, hmid0.len] at hown
      have px := PX.out.below hmid0.low
      have py := PY.out.below hmid0.low
      obtain ⟨l1, x0, x1, -, -⟩ := px.facts
      obtain ⟨l2, y0, y1, -, -⟩ := py.facts
      have C := fun (V : World) (hV : V = wr) => exact_signed_own (n1 != n2) _ _ _ _ V (hV ▸ hown)
      rw [← HZV.out] at C
      have H1 := Hd (C wr rfl)
      have pr := PR.out.below hmid0.low
      have B1 := belowTo B0.out hmid0.low
      have hsz := B0.out.size
      have hlr := PR.out.blk.lt
      clear hown px py C
      go_wp2_with fail
      refine H1.out.mono ?_
      rintro e w1 ⟨v, rfl, hI, hb⟩
      obtain ⟨A1, c1, hv, _⟩ := hI.form
      have hI2 := hI
      rw [hv] at hI2 ⊢
      have pr := pr.below hb
      have B2 := belowTo B1 hb
      obtain ⟨hl, k0, k1, f0, f1⟩ := pr.facts
      clear H1 hv hI l1 x0 x1 l2 y0 y1 hb
      go_wp2_with fail
      have hq := pr.store (.bool (decide (z < 0))) (.slice A1 (natL z.natAbs).length c1)
      obtain ⟨_, k0, k1, _, _⟩ := hq.facts
      exact bodyPost_ret (by simp [results, Tryz.results71, go_sem, k0, k1]) rfl ⟨_, rfl, (hI2.pair (by omega)).base hsz, below2 B2 (by omega) _ _⟩
/- mul, times of the references: what they count. -/

/- Long of package exact and of the references: is one of these too long? -/

theorem Reads.row2 {w : World} {B n k : Nat} {A : Option Addr} {xs : List Value} {a b : Value} (h : Reads w B 2 A n xs) (hk : k < n) (h0 : xs[k * 2]? = some a) (h1 : xs[k * 2 + 1]? = some b) :
    ∃ ad : Addr, A = some ad ∧ ad.block < B ∧ w.cell? (ad.add (k * 2)) = some a ∧ w.cell? ⟨(ad.add (k * 2)).block, (ad.add (k * 2)).off + 1, none⟩ = some b := by
  obtain ⟨ad, e, hb, hc⟩ := h.2 (by omega)
  refine ⟨ad, e, hb, hc _ _ h0, ?_⟩
  rw [← add_more _ _ 1 (by omega)]; exact hc _ _ h1
theorem flat2 {α : Type} (f g : α → Value) : ∀ (l : List α) (k : Nat) (hk : k < l.length), (l.flatMap fun m => [f m, g m])[k * 2]? = some (f l[k]) ∧ (l.flatMap fun m => [f m, g m])[k * 2 + 1]? = some (g l[k])
  | [], k, hk => by simp at hk
  | m :: l, 0, _ => by simp
  | m :: l, k + 1, hk => by
    have ih := flat2 f g l k (by simpa using hk)
    simp only [List.flatMap_cons, show (k + 1) * 2 = k * 2 + 2 by omega]
    simpa using ih
abbrev Loc := Bool × Option Addr × Nat × Nat
def cellsZ (l : List Loc) : List Value := l.flatMap fun m => [.bool m.1, .slice m.2.1 m.2.2.1 m.2.2.2]

theorem long_one (neg : Bool) (A : Option Addr) (k c : Nat) (hk : k ≤ 9223372036854775807) (w : World) :
    Calls Tryz.prog 108 #[.agg #[.bool neg, .slice A k c]] w fun e w' => e = .returned (.bool (decide (2048 < k))) ∧ Below w.heap.size w w' := by
  by_cases h : 2048 < k
  · rw [decide_eq_true h]
    have h2 : (2048 : Int) < (k : Int) := by omega
    clear h
    go_enter Tryz.func108, Tryz.ntmps108
    go_wp2
    go_ret
    exact ⟨by go_num, by repeat (first | exact Below.refl _ _ | refine Below.alloc ?_ (by simp; try omega) _)⟩
  · rw [decide_eq_false h]
    have h2 : (k : Int) ≤ 2048 := by omega
    clear h
    go_enter Tryz.func108, Tryz.ntmps108
    go_wp2
    go_ret
    exact ⟨by go_num, by repeat (first | exact Below.refl _ _ | refine Below.alloc ?_ (by simp; try omega) _)⟩

theorem index_long (A : Option Addr) (c : Nat) (l : List Loc) (hl : l.length ≤ 9223372036854775807) (hs : ∀ x ∈ l, x.2.2.1 ≤ 9223372036854775807) (w : World) (h : Reads w w.heap.size 2 A l.length (cellsZ l)) :
    Calls Tryz.prog 120 #[.slice A l.length c, (.func (.func 108) #[] #[])] w fun e w' => ∃ k : Int, e = .returned (.int .i64 k) ∧ (decide (0 ≤ k) = l.any fun x => decide (2048 < x.2.2.1)) ∧ Below w.heap.size w w' := by
  have HR := Hd h
  have HS := Hd hs
  clear h hs
  have H0 := Hd (by intro j hj; omega : ∀ j (hj : j < 0), (h : j < l.length) → ¬ 2048 < l[j].2.2.1)
  go_enter Tryz.func120, Tryz.ntmps120
  go_wp2_with fail
  go_loopw [8] (fun s wr => ∃ i : Nat, s = .int .i64 i ∧ i ≤ l.length ∧ Hid (∀ j (hj : j < i), (h : j < l.length) → ¬ 2048 < l[j].2.2.1) ∧ Below w.heap.size w wr) (fun s _ => l.length - (intOf s).toNat)
  case atStart => exact ⟨0, rfl, Nat.zero_le _, H0, Below.refl _ _⟩
  case round =>
    obtain ⟨i, rfl, hi, HN, hb⟩ := hrel
    clear H0
    by_cases hlt : i < l.length
    · have a0 : (0 : Int) ≤ (i : Int) := by omega
      have a1 : (i : Int) < (l.length : Int) := by omega
      obtain ⟨e0, e1⟩ := flat2 (fun m : Loc => Value.bool m.1) (fun m : Loc => Value.slice m.2.1 m.2.2.1 m.2.2.2) l i hlt
      obtain ⟨ad, rfl, hbl, c0, c1⟩ := (HR.out.below hb).row2 hlt e0 e1
      have C := Hd (fun V => long_one l[i].1 l[i].2.1 l[i].2.2.1 l[i].2.2.2 (HS.out _ (List.getElem_mem hlt)) V)
      have HB := Hd hb
      clear e0 e1 hbl hb
      by_cases hlong : 2048 < l[i].2.2.1
      · rw [decide_eq_true hlong] at C
        have HL := Hd hlong
        clear hlong
        go_wp2_with (first | (go_at_call 108; with_reducible refine (C.out _).mono ?_; rintro e w' ⟨rfl, hb'⟩))
        go_ret
        refine ⟨_, rfl, ?_, belowTo HB.out hb'⟩
        rw [decide_eq_true (by omega), eq_comm, List.any_eq_true]
        exact ⟨l[i], List.getElem_mem hlt, decide_eq_true HL.out⟩
      · rw [decide_eq_false hlong] at C
        have HL := Hd hlong
        clear hlong
        go_wp2_with (first | (go_at_call 108; with_reducible refine (C.out _).mono ?_; rintro e w' ⟨rfl, hb'⟩))
        go_roundw
        case rel =>
          refine ⟨i + 1, by go_num, hlt, Hd fun j hj h => ?_, belowTo HB.out hb'⟩
          rcases (by omega : j < i ∨ j = i) with hj | rfl
          · exact HN.out j hj h
          · exact HL.out
        case measure => simp [intOf]; omega
    · have HB := Hd hb
      clear hb
      go_wp2_with fail
      go_ret
      refine ⟨_, rfl, ?_, HB.out⟩
      rw [decide_eq_false (by omega), eq_comm, List.any_eq_false]
      intro x hx
      obtain ⟨j, hj, rfl⟩ := List.getElem_of_mem hx
      simpa using HN.out j (by omega) hj

theorem contains_long (A : Option Addr) (c : Nat) (l : List Loc) (hl : l.length ≤ 9223372036854775807) (hs : ∀ x ∈ l, x.2.2.1 ≤ 9223372036854775807) (w : World) (h : Reads w w.heap.size 2 A l.length (cellsZ l)) :
    Calls Tryz.prog 107 #[.slice A l.length c, (.func (.func 108) #[] #[])] w fun e w' => e = .returned (.bool (l.any fun x => decide (2048 < x.2.2.1))) ∧ Below w.heap.size w w' := by
  have C := Hd (index_long A c l hl hs w h)
  clear h hs
  generalize (l.any fun x => decide (2048 < x.2.2.1)) = b at C ⊢
  go_enter Tryz.func107, Tryz.ntmps107
  go_wp2_with fail
  refine C.out.mono ?_
  rintro e w' ⟨k, rfl, rfl, hb⟩
  go_wp2_with fail
  go_ret
  exact ⟨rfl, hb⟩
theorem exact_Long (A : Option Addr) (c : Nat) (l : List Loc) (hl : l.length ≤ 9223372036854775807) (hs : ∀ x ∈ l, x.2.2.1 ≤ 9223372036854775807) (w : World) (h : Reads w w.heap.size 2 A l.length (cellsZ l)) :
    Calls Tryz.prog 94 #[.slice A l.length c] w fun e w' => e = .returned (.bool (l.any fun x => decide (2048 < x.2.2.1))) ∧ Below w.heap.size w w' := by
  have C := Hd (contains_long A c l hl hs w h)
  clear h hs
  generalize (l.any fun x => decide (2048 < x.2.2.1)) = b at C ⊢
  go_enter Tryz.func94, Tryz.ntmps94
  go_wp2_with fail
  refine C.out.mono ?_
  rintro e w' ⟨rfl, hb⟩
  go_wp2_with fail
  go_ret
  exact ⟨rfl, hb⟩

/- fine, Cmp of package whole and of the references. (Written by wip/exact/genfine.py.) -/

/- Minus, Times, told; Add, Sub, Mul of package whole and of the references. (Written by wip/exact/genops.py.) -/

theorem ival_at (x : Int) : ival (decide (x < 0)) (natL x.natAbs) = x := by
  unfold ival
  rw [val_natL]
  by_cases h : x < 0
  · simp [h]; omega
  · simp [h]; omega
structure IntAt (w : World) (v : Value) (x : Int) : Prop where
  form : ∃ A c, v = .agg #[.bool (decide (x < 0)), .slice A (natL x.natAbs).length c] ∧ Raw w A c (natL x.natAbs)
theorem IntOwn.at_ {w : World} {base : Nat} {v : Value} {x : Int} (h : IntOwn w base v x) : IntAt w v x := ⟨h.raw⟩
def RetAt (w : World) (x : Int) (e : Ending) (w' : World) : Prop := ∃ v, e = .returned v ∧ IntAt w' v x ∧ Below w.heap.size w w'
def sv (neg : Bool) (A : Option Addr) (c : Nat) (xs : List Nat) : Value := if val xs = 0 then .agg #[.bool false, .slice none 0 0] else .agg #[.bool neg, .slice A (natL (val xs)).length c]
theorem sv_form (neg : Bool) (A : Option Addr) (c : Nat) (xs : List Nat) : ∃ b A' k c', sv neg A c xs = .agg #[.bool b, .slice A' k c'] := by
  unfold sv; split <;> exact ⟨_, _, _, _, rfl⟩
def RetInt2 (base : Nat) (w : World) (x : Int) (code : Int) (e : Ending) (w' : World) : Prop := ∃ v, e = .returned (.tuple #[v, .int .i64 code]) ∧ IntOwn w' base v x ∧ Below w.heap.size w w'
def toldV (z : Int) : Int := if (natL z.natAbs).length ≤ 2048 then z else 0
def toldE (z : Int) : Int := if (natL z.natAbs).length ≤ 2048 then 0 else 4

theorem exact_Times (n1 n2 : Bool) (A B : Option Addr) (c d : Nat) (xs ys : List Nat) (hlx : xs.length ≤ 536870912) (hly : ys.length ≤ 536870912) (w : World) (h : Raw w A c xs) (g : Raw w B d ys) :
    Calls Tryz.prog 71 #[.agg #[.bool n1, .slice A xs.length c], .agg #[.bool n2, .slice B ys.length d]] w (RetInt w.heap.size w (ival n1 xs * ival n2 ys)) := by
  refine exact_Times_own n1 n2 A B c d xs ys hlx hly _ ?_ w h g
  show _ = _
  unfold ival
  cases n1 <;> cases n2 <;> simp [Int.neg_mul, Int.mul_neg]

theorem exact_Minus_neg (n1 : Bool) (A B : Option Addr) (c d : Nat) (xs ys : List Nat)  (hcx : Canon xs) (hcy : Canon ys) (hlx : xs.length ≤ 536870912) (hly : ys.length ≤ 536870912) (z : Int) (HZV : Hid (z = ival n1 xs + ival false ys)) (w : World) (h : Raw w A c xs) (g : Raw w B d ys) :
    Calls Tryz.prog 101 #[.agg #[.bool n1, .slice A xs.length c], .agg #[.bool true, .slice B ys.length d]] w (RetInt w.heap.size w z) := by
  have px := ((Pair.new w 25 (.bool n1) (.slice A xs.length c)).alloc (.cells #[.bool true, .slice B ys.length d] 25)).alloc (.cells #[.bool false, .slice none 0 0] 25)
  have py := (Pair.new (w.alloc (.cells #[.bool n1, .slice A xs.length c] 25)) 25 (.bool true) (.slice B ys.length d)).alloc (.cells #[.bool false, .slice none 0 0] 25)
  have pr := Pair.new ((w.alloc (.cells #[.bool n1, .slice A xs.length c] 25)).alloc (.cells #[.bool true, .slice B ys.length d] 25)) 25 (.bool false) (.slice none 0 0)
  have rx := (((h.alloc (.cells #[.bool n1, .slice A xs.length c] 25)).alloc (.cells #[.bool true, .slice B ys.length d] 25)).alloc (.cells #[.bool false, .slice none 0 0] 25))
  have ry := (((g.alloc (.cells #[.bool n1, .slice A xs.length c] 25)).alloc (.cells #[.bool true, .slice B ys.length d] 25)).alloc (.cells #[.bool false, .slice none 0 0] 25))
  have b0 := (((Below.refl w.heap.size w).alloc (Nat.le_refl _) (.cells #[.bool n1, .slice A xs.length c] 25)).alloc (by simp) (.cells #[.bool true, .slice B ys.length d] 25)).alloc (by simp; omega) (.cells #[.bool false, .slice none 0 0] 25)
  simp only [World.size_alloc] at py pr
  clear h g
  go_enter Tryz.func101, Tryz.ntmps101
  go_wp2_with fail
  obtain ⟨W, E⟩ : ∃ W, W = ((w.alloc (.cells #[.bool n1, .slice A xs.length c] 25)).alloc (.cells #[.bool true, .slice B ys.length d] 25)).alloc (.cells #[.bool false, .slice none 0 0] 25) := ⟨_, rfl⟩
  rw [← E] at px py pr b0 rx ry ⊢
  clear E
  have PX := Hd px
  have PY := Hd py
  have PR := Hd pr
  have B0 := Hd b0
  have RX := Hd rx
  have RY := Hd ry
  have hlr := pr.blk.lt
  have hsz := b0.size
  obtain ⟨l1, x0, x1, -, -⟩ := px.facts
  obtain ⟨l2, y0, y1, -, -⟩ := py.facts
  clear px py pr rx ry b0
  have C1 := Hd (show Calls Tryz.prog 75 #[.agg #[.bool n1, .slice A xs.length c], .agg #[.bool false, .slice B ys.length d]] W (RetInt W.heap.size W z) from by rw [HZV.out]; exact exact_Plus n1 false A B c d xs ys hcx hcy hlx hly W RX.out RY.out)
  go_wp2_with fail
  refine C1.out.mono ?_
  rintro e w1 ⟨v, rfl, hI, hb⟩
  clear C1 RX RY PX PY l1 x0 x1 l2 y0 y1
  obtain ⟨A1, c1, hv, -⟩ := hI.form
  have hI2 := hI
  rw [hv] at hI2 ⊢
  have pr := PR.out.below hb
  have B1 := belowTo B0.out hb
  obtain ⟨hl, k0, k1, f0, f1⟩ := pr.facts
  clear hv hI hb
  go_wp2_with fail
  have hq := pr.store (.bool (decide (z < 0))) (.slice A1 (natL z.natAbs).length c1)
  obtain ⟨_, k0, k1, _, _⟩ := hq.facts
  exact bodyPost_ret (by simp [results, Tryz.results101, go_sem, k0, k1]) rfl ⟨_, rfl, (hI2.pair (by omega)).base hsz, below2 B1 (by omega) _ _⟩

theorem exact_Minus_pos (n1 : Bool) (A B : Option Addr) (c d : Nat) (xs ys : List Nat) (hy : 0 < ys.length) (hcx : Canon xs) (hcy : Canon ys) (hlx : xs.length ≤ 536870912) (hly : ys.length ≤ 536870912) (z : Int) (HZV : Hid (z = ival n1 xs + ival true ys)) (w : World) (h : Raw w A c xs) (g : Raw w B d ys) :
    Calls Tryz.prog 101 #[.agg #[.bool n1, .slice A xs.length c], .agg #[.bool false, .slice B ys.length d]] w (RetInt w.heap.size w z) := by
  have hy2 : decide ((0 : Int) < (ys.length : Int)) = true := by simp; omega
  have px := ((Pair.new w 25 (.bool n1) (.slice A xs.length c)).alloc (.cells #[.bool false, .slice B ys.length d] 25)).alloc (.cells #[.bool false, .slice none 0 0] 25)
  have py := (Pair.new (w.alloc (.cells #[.bool n1, .slice A xs.length c] 25)) 25 (.bool false) (.slice B ys.length d)).alloc (.cells #[.bool false, .slice none 0 0] 25)
  have pr := Pair.new ((w.alloc (.cells #[.bool n1, .slice A xs.length c] 25)).alloc (.cells #[.bool false, .slice B ys.length d] 25)) 25 (.bool false) (.slice none 0 0)
  have rx := (((h.alloc (.cells #[.bool n1, .slice A xs.length c] 25)).alloc (.cells #[.bool false, .slice B ys.length d] 25)).alloc (.cells #[.bool false, .slice none 0 0] 25))
  have ry := (((g.alloc (.cells #[.bool n1, .slice A xs.length c] 25)).alloc (.cells #[.bool false, .slice B ys.length d] 25)).alloc (.cells #[.bool false, .slice none 0 0] 25))
  have b0 := (((Below.refl w.heap.size w).alloc (Nat.le_refl _) (.cells #[.bool n1, .slice A xs.length c] 25)).alloc (by simp) (.cells #[.bool false, .slice B ys.length d] 25)).alloc (by simp; omega) (.cells #[.bool false, .slice none 0 0] 25)
  simp only [World.size_alloc] at py pr
  clear h g
  go_enter Tryz.func101, Tryz.ntmps101
  go_wp2_with fail
  obtain ⟨W, E⟩ : ∃ W, W = ((w.alloc (.cells #[.bool n1, .slice A xs.length c] 25)).alloc (.cells #[.bool false, .slice B ys.length d] 25)).alloc (.cells #[.bool false, .slice none 0 0] 25) := ⟨_, rfl⟩
  rw [← E] at px py pr b0 rx ry ⊢
  clear E
  have PX := Hd px
  have PY := Hd py
  have PR := Hd pr
  have B0 := Hd b0
  have RX := Hd rx
  have RY := Hd ry
  have hlr := pr.blk.lt
  have hsz := b0.size
  obtain ⟨l1, x0, x1, -, -⟩ := px.facts
  obtain ⟨l2, y0, y1, -, -⟩ := py.facts
  clear px py pr rx ry b0
  have C1 := Hd (show Calls Tryz.prog 75 #[.agg #[.bool n1, .slice A xs.length c], .agg #[.bool true, .slice B ys.length d]] W (RetInt W.heap.size W z) from by rw [HZV.out]; exact exact_Plus n1 true A B c d xs ys hcx hcy hlx hly W RX.out RY.out)
  go_wp2_with fail
  refine C1.out.mono ?_
  rintro e w1 ⟨v, rfl, hI, hb⟩
  clear C1 RX RY PX PY l1 x0 x1 l2 y0 y1
  obtain ⟨A1, c1, hv, -⟩ := hI.form
  have hI2 := hI
  rw [hv] at hI2 ⊢
  have pr := PR.out.below hb
  have B1 := belowTo B0.out hb
  obtain ⟨hl, k0, k1, f0, f1⟩ := pr.facts
  clear hv hI hb
  go_wp2_with fail
  have hq := pr.store (.bool (decide (z < 0))) (.slice A1 (natL z.natAbs).length c1)
  obtain ⟨_, k0, k1, _, _⟩ := hq.facts
  exact bodyPost_ret (by simp [results, Tryz.results101, go_sem, k0, k1]) rfl ⟨_, rfl, (hI2.pair (by omega)).base hsz, below2 B1 (by omega) _ _⟩

theorem exact_Minus_nought (n1 : Bool) (A B : Option Addr) (c d : Nat) (xs : List Nat)  (hcx : Canon xs) (hcy : Canon ([] : List Nat)) (hlx : xs.length ≤ 536870912) (hly : 0 ≤ 536870912) (z : Int) (HZV : Hid (z = ival n1 xs + ival false ([] : List Nat))) (w : World) (h : Raw w A c xs) (g : Raw w B d ([] : List Nat)) :
    Calls Tryz.prog 101 #[.agg #[.bool n1, .slice A xs.length c], .agg #[.bool false, .slice B 0 d]] w (RetInt w.heap.size w z) := by
  have px := ((Pair.new w 25 (.bool n1) (.slice A xs.length c)).alloc (.cells #[.bool false, .slice B 0 d] 25)).alloc (.cells #[.bool false, .slice none 0 0] 25)
  have py := (Pair.new (w.alloc (.cells #[.bool n1, .slice A xs.length c] 25)) 25 (.bool false) (.slice B 0 d)).alloc (.cells #[.bool false, .slice none 0 0] 25)
  have pr := Pair.new ((w.alloc (.cells #[.bool n1, .slice A xs.length c] 25)).alloc (.cells #[.bool false, .slice B 0 d] 25)) 25 (.bool false) (.slice none 0 0)
  have rx := (((h.alloc (.cells #[.bool n1, .slice A xs.length c] 25)).alloc (.cells #[.bool false, .slice B 0 d] 25)).alloc (.cells #[.bool false, .slice none 0 0] 25))
  have ry := (((g.alloc (.cells #[.bool n1, .slice A xs.length c] 25)).alloc (.cells #[.bool false, .slice B 0 d] 25)).alloc (.cells #[.bool false, .slice none 0 0] 25))
  have b0 := (((Below.refl w.heap.size w).alloc (Nat.le_refl _) (.cells #[.bool n1, .slice A xs.length c] 25)).alloc (by simp) (.cells #[.bool false, .slice B 0 d] 25)).alloc (by simp; omega) (.cells #[.bool false, .slice none 0 0] 25)
  simp only [World.size_alloc] at py pr
  clear h g
  go_enter Tryz.func101, Tryz.ntmps101
  go_wp2_with fail
  obtain ⟨W, E⟩ : ∃ W, W = ((w.alloc (.cells #[.bool n1, .slice A xs.length c] 25)).alloc (.cells #[.bool false, .slice B 0 d] 25)).alloc (.cells #[.bool false, .slice none 0 0] 25) := ⟨_, rfl⟩
  rw [← E] at px py pr b0 rx ry ⊢
  clear E
  have PX := Hd px
  have PY := Hd py
  have PR := Hd pr
  have B0 := Hd b0
  have RX := Hd rx
  have RY := Hd ry
  have hlr := pr.blk.lt
  have hsz := b0.size
  obtain ⟨l1, x0, x1, -, -⟩ := px.facts
  obtain ⟨l2, y0, y1, -, -⟩ := py.facts
  clear px py pr rx ry b0
  have C1 := Hd (show Calls Tryz.prog 75 #[.agg #[.bool n1, .slice A xs.length c], .agg #[.bool false, .slice B 0 d]] W (RetInt W.heap.size W z) from by rw [HZV.out]; exact exact_Plus n1 false A B c d xs ([] : List Nat) hcx hcy hlx hly W RX.out RY.out)
  go_wp2_with fail
  refine C1.out.mono ?_
  rintro e w1 ⟨v, rfl, hI, hb⟩
  clear C1 RX RY PX PY l1 x0 x1 l2 y0 y1
  obtain ⟨A1, c1, hv, -⟩ := hI.form
  have hI2 := hI
  rw [hv] at hI2 ⊢
  have pr := PR.out.below hb
  have B1 := belowTo B0.out hb
  obtain ⟨hl, k0, k1, f0, f1⟩ := pr.facts
  clear hv hI hb
  go_wp2_with fail
  have hq := pr.store (.bool (decide (z < 0))) (.slice A1 (natL z.natAbs).length c1)
  obtain ⟨_, k0, k1, _, _⟩ := hq.facts
  exact bodyPost_ret (by simp [results, Tryz.results101, go_sem, k0, k1]) rfl ⟨_, rfl, (hI2.pair (by omega)).base hsz, below2 B1 (by omega) _ _⟩

theorem exact_Minus (n1 n2 : Bool) (A B : Option Addr) (c d : Nat) (xs ys : List Nat) (hcx : Canon xs) (hcy : Canon ys) (hlx : xs.length ≤ 536870912) (hly : ys.length ≤ 536870912) (w : World) (h : Raw w A c xs) (g : Raw w B d ys) :
    Calls Tryz.prog 101 #[.agg #[.bool n1, .slice A xs.length c], .agg #[.bool n2, .slice B ys.length d]] w (RetInt w.heap.size w (ival n1 xs - ival n2 ys)) := by
  cases n2 with
  | true => exact exact_Minus_neg n1 A B c d xs ys hcx hcy hlx hly _ (by show _ = _; simp [ival]; try omega) w h g
  | false =>
    by_cases hy : 0 < ys.length
    · exact exact_Minus_pos n1 A B c d xs ys hy hcx hcy hlx hly _ (by show _ = _; simp [ival]; try omega) w h g
    · have e : ys = [] := List.eq_nil_of_length_eq_zero (by omega)
      subst e
      exact exact_Minus_nought n1 A B c d xs hcx hcy hlx hly _ (by show _ = _; simp [ival, val]) w h g

end Go.Proofs.YtmcnmoljliggfaaGreatDoor
