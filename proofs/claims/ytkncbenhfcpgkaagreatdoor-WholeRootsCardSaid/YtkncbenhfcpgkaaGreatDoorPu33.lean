/- Several texts in one: Shelfq2, Signq1, Timesq1, RefMulq1. -/
import Derived.Test.YtkncbenhfcpgkaaGreatDoorPu02
import Derived.Shelf.Strings.Builder1
import Derived.Shelf.Small.Bits
import Derived.Shelf.Strings.BuilderF
import Derived.Shelf.Strings.BuilderK
import Derived.Shelf.Strconv.Itoa0
import Derived.Shelf.Strconv.Itoa1
import Derived.Shelf.LaysM
import Derived.Shelf.Strconv.Itoa2
import Derived.Shelf.Strconv.Itoa3
import Derived.Test.YtkncbenhfcpgkaaGreatDoorProg
import Derived.Test.YtkncbenhfcpgkaaGreatDoorPu03
import Derived.Test.YtkncbenhfcpgkaaGreatDoorPu01
import Derived.Deep.RegionHeld3
import Derived.IntWalk
import Derived.Deep.QuietTactic
import Derived.BigQuiet
import Derived.Test.YtkncbenhfcpgkaaGreatDoorPu07
import Derived.Test.YtkncbenhfcpgkaaGreatDoorPuHd
import Derived.Test.YtkncbenhfcpgkaaGreatDoorPu04
import Derived.Test.YtkncbenhfcpgkaaGreatDoorPu06
set_option maxRecDepth 100000
set_option maxHeartbeats 8000000
/-
  DERIVED: THE SHELF's CONTRACTS AT THIS DUMP, IN PLAIN WORDS (tools/lay-plain.mjs out of 'TryzShelf.lean', which tools/lay-shelf.mjs wrote): THE SAME DECLARATIONS UNDER THE SAME NAMES: 'import', 'namespace', 'open', 'def', 'theorem' AND NOTHING ELSE: no command of the shelf's: FOR A HAND-IN. Each laying: the table of numbers ('.._ren') and one theorem, a field a fact of the dump's own or the kernel's comparison; each contract: ONE APPLICATION.
-/
namespace Go.Proofs

open Go.Shelf
theorem Tryz.lays128 : Go.Proofs.Lays.n128 Tryz.prog Tryz.lays128_ren := {
  mixed := by kernel_rfl
  f128 := Tryz.func115.trans (congrArg some (by kernel_rfl))
  t3 := Tryz.underlying3
  a3 := Tryz.isAgg3
  z3 := Tryz.sizeOf3
  v3 := Tryz.zeroValue3
  t4 := Tryz.underlying4
  a4 := Tryz.isAgg4
  z4 := Tryz.sizeOf4
  v4 := Tryz.zeroValue4
  t5 := Tryz.underlying5
  a5 := Tryz.isAgg5
  z5 := Tryz.sizeOf5
  v5 := Tryz.zeroValue5
  t9 := Tryz.underlying9
  a9 := Tryz.isAgg9
  z9 := Tryz.sizeOf9
  v9 := Tryz.zeroValue9
  t46 := Tryz.underlying94
  a46 := Tryz.isAgg94
  z46 := Tryz.sizeOf94
  v46 := Tryz.zeroValue94
  t51 := Tryz.underlying70
  a51 := Tryz.isAgg70
  z51 := Tryz.sizeOf70
  v51 := Tryz.zeroValue70 }
theorem Tryz.bits_Len32 (x : Int) (w : World) (h0 : 0 ≤ x) (h1 : x ≤ 4294967295) :
    Calls Tryz.prog 115 #[.int .u32 x] w fun e w' => e = .returned (.int .i64 (Lib.bitLen x.toNat)) ∧ w' = w := Any.bits_Len32 Tryz.lays128 x w h0 h1
end Go.Proofs

/- Sign, Bits: of whatever limbs come in. -/
namespace Go.Proofs.YtkncbenhfcpgkaaGreatDoor
open Go.RowKit

theorem exact_Bits_more (neg : Bool) (A : Option Addr) (c : Nat) (xs : List Nat) (w : World) (h : Raw w A c xs) (k : Nat) (hk : xs.length = k + 1) (hl : xs.length ≤ 268435456) :
    Calls Tryz.prog 32 #[.agg #[.bool neg, .slice A xs.length c]] w fun e w' => e = .returned (.int .i64 (32 * (k : Int) + (Lib.bitLen (xs[k]) : Nat))) ∧ Below w.heap.size w w' := by
  have h1 := h.cap
  have h2 := h.most
  have hlim := limbs_get h.limbs (k := k) (by omega)
  obtain ⟨ad, rfl, hbl, hcell⟩ := h.reads.get (k := k) (by omega)
  have hbk : (ad.add k).block < w.heap.size := by rw [block_of_add]; exact hbl
  generalize xs[k] = y at hcell hlim ⊢
  rw [hk] at h1 hl ⊢
  clear h hk
  have hy := bla_le 64 y
  have e1 : IntKind.i64.wrap ((k : Int) + 1 - 1) = (k : Int) := by rw [IntWalk.i64_in _ (by omega)]; omega
  have e2 : IntKind.i64.wrap (32 * (k : Int)) = 32 * (k : Int) := IntWalk.i64_in _ (by omega)
  have e3 : IntKind.i64.wrap (32 * (k : Int) + (Lib.bitLen y : Nat)) = 32 * (k : Int) + (Lib.bitLen y : Nat) := IntWalk.i64_in _ (by unfold Lib.bitLen; omega)
  have a0 : (0 : Int) ≤ (k : Int) := by omega
  have a1 : (k : Int) < (k : Int) + 1 := by omega
  have a2 : (k : Int) + 1 - 1 = (k : Int) := by omega
  have a3 : (0 : Int) ≤ (y : Int) := by omega
  have a4 : (y : Int) ≤ 4294967295 := by omega
  go_enter Tryz.func32, Tryz.ntmps32
  go_wp2_with fail
  go_quiet ((go_at_call 115; exact Calls.quiet_of_same (Tryz.bits_Len32 _ _ (by omega) (by omega))))
  go_wp2
  go_ret
  exact ⟨rfl, by repeat (first | exact Below.refl _ _ | apply below_drewN | refine Below.alloc ?_ (by simp; try omega) _)⟩

theorem exact_Bits_any (neg : Bool) (A : Option Addr) (c : Nat) (xs : List Nat) (w : World) (h : Raw w A c xs) (hl : xs.length ≤ 268435456) :
    Calls Tryz.prog 32 #[.agg #[.bool neg, .slice A xs.length c]] w fun e w' => e = .returned (.int .i64 (bitsI xs)) ∧ Below w.heap.size w w' := by
  rcases Nat.eq_zero_or_pos xs.length with h0 | h0
  · have e : (bitsI xs : Int) = 0 := by simp [bitsI, h0]
    rw [e, h0]
    clear h h0 hl e
    go_enter Tryz.func32, Tryz.ntmps32
    go_wp2
    go_ret
    exact ⟨rfl, by repeat (first | exact Below.refl _ _ | apply below_drewN | refine Below.alloc ?_ (by simp; try omega) _)⟩
  · obtain ⟨k, hk⟩ : ∃ k, xs.length = k + 1 := ⟨xs.length - 1, by omega⟩
    have e : (bitsI xs : Int) = 32 * (k : Int) + (Lib.bitLen (xs[k]) : Nat) := by
      simp [bitsI, hk, getLast_get hk]
    rw [e]
    exact exact_Bits_more neg A c xs w h k hk hl
/- Times of package exact: what it counts. -/

theorem exact_Times_own (n1 n2 : Bool) (A B : Option Addr) (c d : Nat) (xs ys : List Nat) (hlx : xs.length ≤ 536870912) (hly : ys.length ≤ 536870912) (z : Int) (HZV : Hid (z = if (n1 != n2) then -((val xs * val ys : Nat) : Int) else ((val xs * val ys : Nat) : Int))) (w : World) (h : Raw w A c xs) (g : Raw w B d ys) :
    Calls Tryz.prog 108 #[.agg #[.bool n1, .slice A xs.length c], .agg #[.bool n2, .slice B ys.length d]] w (RetInt w.heap.size w z) := by
  have hc := h.cap
  have hm := h.most
  have hd := g.cap
  have hn := g.most
  have px := ((Pair.new w 24 (.bool n1) (.slice A xs.length c)).alloc (.cells #[.bool n2, .slice B ys.length d] 24)).alloc (.cells #[.bool false, .slice none 0 0] 24)
  have py := (Pair.new (w.alloc (.cells #[.bool n1, .slice A xs.length c] 24)) 24 (.bool n2) (.slice B ys.length d)).alloc (.cells #[.bool false, .slice none 0 0] 24)
  have pr := Pair.new ((w.alloc (.cells #[.bool n1, .slice A xs.length c] 24)).alloc (.cells #[.bool n2, .slice B ys.length d] 24)) 24 (.bool false) (.slice none 0 0)
  have rx := (((h.alloc (.cells #[.bool n1, .slice A xs.length c] 24)).alloc (.cells #[.bool n2, .slice B ys.length d] 24)).alloc (.cells #[.bool false, .slice none 0 0] 24))
  have ry := (((g.alloc (.cells #[.bool n1, .slice A xs.length c] 24)).alloc (.cells #[.bool n2, .slice B ys.length d] 24)).alloc (.cells #[.bool false, .slice none 0 0] 24))
  have b0 := (((Below.refl w.heap.size w).alloc (Nat.le_refl _) (.cells #[.bool n1, .slice A xs.length c] 24)).alloc (by simp) (.cells #[.bool n2, .slice B ys.length d] 24)).alloc (by simp; omega) (.cells #[.bool false, .slice none 0 0] 24)
  simp only [World.size_alloc] at py pr
  clear h g
  obtain ⟨i0, hi, hz0, hz1, hz2⟩ := info_parts limbInfo
  have hmk : ∀ W : World, (Instr.makeSlice 22 (.int .i64 ((xs.length : Int) + (ys.length : Int))) (.int .i64 ((xs.length : Int) + (ys.length : Int)))).run Tryz.prog W = .ok (.slice (some ⟨W.heap.size, 0, none⟩) (xs.length + ys.length) (xs.length + ys.length)) (W.alloc (.cells (madeCells #[.int .u32 0] (xs.length + ys.length)) 70)) := fun W => by
    have h := run_make_rowN (P := Tryz.prog) 22 70 i0 _ Tryz.underlying22 hi hz0 .i64 .i64 (xs.length + ys.length) (xs.length + ys.length) (by omega) (by rw [hz2]; omega) (by omega) W
    rw [show ((xs.length + ys.length : Nat) : Int) = (xs.length : Int) + (ys.length : Int) by omega, hz1, Nat.mul_one] at h
    exact h
  go_enter Tryz.func108, Tryz.ntmps108
  go_wp2_with fail
  obtain ⟨W, E⟩ : ∃ W, W = ((w.alloc (.cells #[.bool n1, .slice A xs.length c] 24)).alloc (.cells #[.bool n2, .slice B ys.length d] 24)).alloc (.cells #[.bool false, .slice none 0 0] 24) := ⟨_, rfl⟩
  rw [← E] at px py pr b0 rx ry ⊢
  clear E
  obtain ⟨l1, x0, x1, -, -⟩ := px.facts
  obtain ⟨l2, y0, y1, -, -⟩ := py.facts
  have PX := Hd px
  have PY := Hd py
  have PR := Hd pr
  have RX := Hd rx
  have RY := Hd ry
  have B0 := Hd b0
  clear px py pr rx ry b0
  go_quiet (fail)
  have I0 : Mid W ((W.drewN nq).alloc (.cells (madeCells #[.int .u32 0] (xs.length + ys.length)) 70)) W.heap.size (xs.length + ys.length) (List.replicate (xs.length + ys.length) 0) (0 + ys.length) :=
    ⟨by simp, limbs_noughts _, Row.made (W.drewN nq) _, (below_drewN (Below.refl _ _) nq).alloc (Nat.le_refl _) _, fun k _ => at0_noughts _ _⟩
  have J0 : val (List.replicate (xs.length + ys.length) 0) = val (xs.take 0) * val ys := by simp [val_noughts, val]
  have H0 := Hd (⟨_, I0, J0⟩ : ∃ zs, Mid W ((W.drewN nq).alloc (.cells (madeCells #[.int .u32 0] (xs.length + ys.length)) 70)) W.heap.size (xs.length + ys.length) zs (0 + ys.length) ∧ val zs = val (xs.take 0) * val ys)
  clear I0 J0 l1 x0 x1 l2 y0 y1
  go_wp2_with fail
  clear hmk
  go_loopw [25] (fun s wr => ∃ i : Nat, s = .int .i64 i ∧ i ≤ xs.length ∧ Hid (∃ zs, Mid W wr W.heap.size (xs.length + ys.length) zs (i + ys.length) ∧ val zs = val (xs.take i) * val ys)) (fun s _ => xs.length - (intOf s).toNat)
  case atStart => exact ⟨0, rfl, Nat.zero_le _, H0⟩
  case round =>
    obtain ⟨i, rfl, hi', HR⟩ := hrel
    clear H0
    obtain ⟨zs0, hmid0, hv0⟩ := HR.out
    have HV0 := Hd hv0
    clear HR hv0
    by_cases hlt : i < xs.length
    · have a0 : (0 : Int) ≤ (i : Int) := by omega
      have a1 : (i : Int) < (xs.length : Int) := by omega
      obtain ⟨ad, rfl, hbl, hx⟩ := (RX.out.below hmid0.low).reads.get hlt
      have hbx := Hd (limbs_get RX.out.limbs hlt)
      generalize hxe : xs[i] = x at hx hbx
      have HXE := Hd hxe
      clear hxe
      have H1 := Hd (⟨zs0, hmid0, by simp [val]⟩ : ∃ zs, Mid W wr W.heap.size (xs.length + ys.length) zs (i + ys.length) ∧ val zs + 4294967296 ^ (i + 0) * 0 = val zs0 + 4294967296 ^ i * (x * val (ys.take 0)))
      clear hmid0 hbl
      go_wp2_with fail
      go_loopw [10, 32] (fun t s wr => ∃ k cc : Nat, s = .int .i64 k ∧ t = .int .u64 cc ∧ cc < 4294967296 ∧ k ≤ ys.length ∧ Hid (∃ zs, Mid W wr W.heap.size (xs.length + ys.length) zs (i + ys.length) ∧ val zs + 4294967296 ^ (i + k) * cc = val zs0 + 4294967296 ^ i * (x * val (ys.take k)))) (fun _ s _ => ys.length - (intOf s).toNat)
      case atStart => exact ⟨0, 0, rfl, rfl, by omega, Nat.zero_le _, H1⟩
      case round =>
        obtain ⟨k, cc, rfl, rfl, hcc, hk', HR⟩ := hrel
        clear H1 hx
        obtain ⟨zs, hmid, hv⟩ := HR.out
        have HV := Hd hv
        clear HR hv
        by_cases hlk : k < ys.length
        · have e0 : (0 : Int) ≤ (k : Int) := by omega
          have e1 : (k : Int) < (ys.length : Int) := by omega
          have e2 : (0 : Int) ≤ (i : Int) + (k : Int) := by omega
          have e3 : (i : Int) + (k : Int) < (xs.length : Int) + (ys.length : Int) := by omega
          have hmk : i + k < zs.length := by rw [hmid.len]; omega
          obtain ⟨bd, rfl, hbl, hy⟩ := (RY.out.below hmid.low).reads.get hlk
          have hby := limbs_get RY.out.limbs hlk
          have fz := hmid.row.frozen (i + k)
          have hcell := hmid.row.cell hmk
          have hbo := limbs_get hmid.limbs hmk
          generalize hye : ys[k] = y at hy hby
          generalize hze : zs[i + k] = o at hcell hbo
          obtain ⟨hb1, hb2⟩ := mul_bound hbx.out hby hbo hcc
          have S := Hd (⟨zs.set (i + k) ((cc + x * y + o) % 4294967296), hmid.set (Nat.le_refl _) (by omega) (Nat.mod_lt _ (by omega)), by
            rw [show i + (k + 1) = i + k + 1 by omega, mul_step hmk HV.out (x * y) (cc + x * y + o) (by rw [hze]), val_take_more hlk, hye, Nat.pow_add]
            grind⟩ : ∃ zs', Mid W (wr.setCell ⟨W.heap.size, i + k, none⟩ (.int .u32 (((cc + x * y + o) % 4294967296 : Nat) : Int))) W.heap.size (xs.length + ys.length) zs' (i + ys.length) ∧ val zs' + 4294967296 ^ (i + (k + 1)) * ((cc + x * y + o) / 4294967296) = val zs0 + 4294967296 ^ i * (x * val (ys.take (k + 1))))
          clear hmid hmk hye hze hbl
          go_wp2_with fail
          have e : IntKind.u64.wrap ((cc : Int) + IntKind.u64.wrap (IntKind.u64.wrap (IntKind.u64.wrap (x : Int) * (y : Int)) + (o : Int))) = ((cc + x * y + o : Nat) : Int) := by
            have hx1 := hbx.out
            have hx2 : (x : Int) % 18446744073709551616 = x := by omega
            have hp : (x : Int) * (y : Int) = ((x * y : Nat) : Int) := (Int.natCast_mul x y).symm
            simp only [IntKind.wrap_u64]
            rw [hx2, hp]
            generalize x * y = p at hb1
            omega
          rw [e, show ((cc + x * y + o : Nat) : Int) / 4294967296 = (((cc + x * y + o) / 4294967296 : Nat) : Int) by omega, show ((cc + x * y + o : Nat) : Int) % 4294967296 = (((cc + x * y + o) % 4294967296 : Nat) : Int) by omega]
          go_roundw
          case rel => exact ⟨k + 1, _, by go_num, rfl, hb2, hlk, S⟩
          case measure => simp [intOf]; omega
        · obtain rfl : k = ys.length := by omega
          have hmk : i + ys.length < zs.length := by rw [hmid.len]; omega
          have e2 : (0 : Int) ≤ (i : Int) + (ys.length : Int) := by omega
          have e3 : (i : Int) + (ys.length : Int) < (xs.length : Int) + (ys.length : Int) := by omega
          have hcc2 : (cc : Int) < 4294967296 := by omega
          have fz := hmid.row.frozen (i + ys.length)
          have hcell := hmid.row.cell hmk
          have hze : zs[i + ys.length] = 0 := by rw [← at0_lt hmk]; exact hmid.nought _ (Nat.le_refl _)
          rw [hze] at hcell
          have S := Hd (⟨zs.set (i + ys.length) cc, by rw [show i + 1 + ys.length = i + ys.length + 1 by omega]; exact hmid.more.set (Nat.le_refl _) (by omega) hcc, by
            rw [mul_last hmk HV.out hze, HV0.out, List.take_length, val_take_more hlt, HXE.out]
            grind⟩ : ∃ zs', Mid W (wr.setCell ⟨W.heap.size, i + ys.length, none⟩ (.int .u32 (cc : Int))) W.heap.size (xs.length + ys.length) zs' (i + 1 + ys.length) ∧ val zs' = val (xs.take (i + 1)) * val ys)
          clear hmid hmk hze
          go_wp2_with fail
          go_roundw
          case rel => exact ⟨i + 1, by go_num, hlt, S⟩
          case measure => simp [intOf]; omega
    · obtain rfl : i = xs.length := by omega
      have hown := hmid0.row.ownL (base := W.heap.size) (Nat.le_refl _) (by rw [hmid0.len]; omega) hmid0.limbs
      have hv1 := HV0.out
      rw [List.take_length] at hv1
      rw [hv1, hmid0.len] at hown
      have px := PX.out.below hmid0.low
      have py := PY.out.below hmid0.low
      obtain ⟨l1, x0, x1, -, -⟩ := px.facts
      obtain ⟨l2, y0, y1, -, -⟩ := py.facts
      have C := fun (V : World) (hV : V = wr) => exact_signed_own (n1 != n2) _ _ _ _ V (hV ▸ hown)
      rw [← HZV.out] at C
      have H1 := Hd (C wr rfl)
      have pr := PR.out.below hmid0.low
      have B1 := belowTo B0.out hmid0.low
      have hsz := B0.out.size
      have hlr := PR.out.blk.lt
      clear hown px py C
      go_wp2_with fail
      refine H1.out.mono ?_
      rintro e w1 ⟨v, rfl, hI, hb⟩
      obtain ⟨A1, c1, hv, _⟩ := hI.form
      have hI2 := hI
      rw [hv] at hI2 ⊢
      have pr := pr.below hb
      have B2 := belowTo B1 hb
      obtain ⟨hl, k0, k1, f0, f1⟩ := pr.facts
      clear H1 hv hI l1 x0 x1 l2 y0 y1 hb
      go_wp2_with fail
      have hq := pr.store (.bool (decide (z < 0))) (.slice A1 (natL z.natAbs).length c1)
      obtain ⟨_, k0, k1, _, _⟩ := hq.facts
      exact bodyPost_ret (by simp [results, Tryz.results108, go_sem, k0, k1]) rfl ⟨_, rfl, (hI2.pair (by omega)).base hsz, below2 B2 (by omega) _ _⟩
/- mul, times of the references: what they count. -/

theorem ref_mul (A B : Option Addr) (c d : Nat) (xs ys : List Nat) (hlx : xs.length ≤ 536870912) (hly : ys.length ≤ 536870912) (w : World) (h : Raw w A c xs) (g : Raw w B d ys) :
    Calls Tryz.prog 189 #[.slice A xs.length c, .slice B ys.length d] w (RetL w.heap.size w (val xs * val ys) (xs.length + ys.length)) :=
  (ref_mulN A B c d xs ys hlx hly w h g).mono fun _ _ hr => hr.toL (natL_length_le.2 (by
    rw [Nat.pow_add]
    exact Nat.mul_lt_mul'' (val_lt h.limbs) (val_lt g.limbs)))
end Go.Proofs.YtkncbenhfcpgkaaGreatDoor
