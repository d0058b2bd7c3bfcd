/- Several texts in one: RefPlus, Times. -/
import Derived.Test.YtpcdiijmhllejaaDoorBk09
import Derived.Test.YtpcdiijmhllejaaDoorBk16
import Derived.Test.YtpcdiijmhllejaaDoorBk15
import Derived.Test.YtpcdiijmhllejaaDoorBk02
import Derived.Test.YtpcdiijmhllejaaDoorBk08
import Derived.BigQuiet
/- Plus of package polestarref01: what it counts. (Written by wip/exact/genplus.py.) -/
namespace Go.Proofs.YtpcdiijmhllejaaDoor
open Go.RowKit

end Go.Proofs.YtpcdiijmhllejaaDoor

/- Times of package exact: what it counts. -/
namespace Go.Proofs.YtpcdiijmhllejaaDoor
open Go.RowKit

/-- While a product is written: what is there, what stands still at nought. -/
structure Mid (w0 wr : World) (g L : Nat) (zs : List Nat) (top : Nat) : Prop where
  len : zs.length = L
  limbs : Limbs zs
  row : Row wr g zs
  low : Below w0.heap.size w0 wr
  nought : ∀ k, top ≤ k → at0 zs k = 0
theorem Mid.set {w0 wr : World} {g L : Nat} {zs : List Nat} {top m d : Nat} (h : Mid w0 wr g L zs top) (hg : w0.heap.size ≤ g) (hm : m < top) (hd : d < 4294967296) : Mid w0 (wr.setCell ⟨g, m, none⟩ (.int .u32 (d : Int))) g L (zs.set m d) top :=
  ⟨by simp [h.len], limbs_set h.limbs hd, h.row.set m d, h.low.setCell (p := ⟨g, m, none⟩) hg _, fun k hk => by rw [at0_set_ne (by omega)]; exact h.nought k hk⟩
theorem Mid.more {w0 wr : World} {g L : Nat} {zs : List Nat} {top : Nat} (h : Mid w0 wr g L zs top) : Mid w0 wr g L zs (top + 1) :=
  ⟨h.len, h.limbs, h.row, h.low, fun k hk => h.nought k (by omega)⟩

set_option maxRecDepth 100000 in
set_option maxHeartbeats 1000000 in
theorem exact_Times_own (n1 n2 : Bool) (A B : Option Addr) (c d : Nat) (xs ys : List Nat) (hlx : xs.length ≤ 536870912) (hly : ys.length ≤ 536870912) (z : Int) (HZV : Hid (z = if (n1 != n2) then -((val xs * val ys : Nat) : Int) else ((val xs * val ys : Nat) : Int))) (w : World) (h : Raw w A c xs) (g : Raw w B d ys) :
    Calls Tryd.prog 38 #[.agg #[.bool n1, .slice A xs.length c], .agg #[.bool n2, .slice B ys.length d]] w (RetInt w.heap.size w z) := by
  have hc := h.cap
  have hm := h.most
  have hd := g.cap
  have hn := g.most
  have px := ((Pair.new w 24 (.bool n1) (.slice A xs.length c)).alloc (.cells #[.bool n2, .slice B ys.length d] 24)).alloc (.cells #[.bool false, .slice none 0 0] 24)
  have py := (Pair.new (w.alloc (.cells #[.bool n1, .slice A xs.length c] 24)) 24 (.bool n2) (.slice B ys.length d)).alloc (.cells #[.bool false, .slice none 0 0] 24)
  have pr := Pair.new ((w.alloc (.cells #[.bool n1, .slice A xs.length c] 24)).alloc (.cells #[.bool n2, .slice B ys.length d] 24)) 24 (.bool false) (.slice none 0 0)
  have rx := (((h.alloc (.cells #[.bool n1, .slice A xs.length c] 24)).alloc (.cells #[.bool n2, .slice B ys.length d] 24)).alloc (.cells #[.bool false, .slice none 0 0] 24))
  have ry := (((g.alloc (.cells #[.bool n1, .slice A xs.length c] 24)).alloc (.cells #[.bool n2, .slice B ys.length d] 24)).alloc (.cells #[.bool false, .slice none 0 0] 24))
  have b0 := (((Below.refl w.heap.size w).alloc (Nat.le_refl _) (.cells #[.bool n1, .slice A xs.length c] 24)).alloc (by simp) (.cells #[.bool n2, .slice B ys.length d] 24)).alloc (by simp; omega) (.cells #[.bool false, .slice none 0 0] 24)
  simp only [World.size_alloc] at py pr
  clear h g
  obtain ⟨i0, hi, hz0, hz1, hz2⟩ := info_parts limbInfo
  have hmk : ∀ W : World, (Instr.makeSlice 22 (.int .i64 ((xs.length : Int) + (ys.length : Int))) (.int .i64 ((xs.length : Int) + (ys.length : Int)))).run Tryd.prog W = .ok (.slice (some ⟨W.heap.size, 0, none⟩) (xs.length + ys.length) (xs.length + ys.length)) (W.alloc (.cells (madeCells #[.int .u32 0] (xs.length + ys.length)) 48)) := fun W => by
    have h := run_make_rowN (P := Tryd.prog) 22 48 i0 _ Tryd.underlying22 hi hz0 .i64 .i64 (xs.length + ys.length) (xs.length + ys.length) (by omega) (by rw [hz2]; omega) (by omega) W
    rw [show ((xs.length + ys.length : Nat) : Int) = (xs.length : Int) + (ys.length : Int) by omega, hz1, Nat.mul_one] at h
    exact h
  go_enter Tryd.func38, Tryd.ntmps38
  go_wp2_with fail
  obtain ⟨W, E⟩ : ∃ W, W = ((w.alloc (.cells #[.bool n1, .slice A xs.length c] 24)).alloc (.cells #[.bool n2, .slice B ys.length d] 24)).alloc (.cells #[.bool false, .slice none 0 0] 24) := ⟨_, rfl⟩
  rw [← E] at px py pr b0 rx ry ⊢
  clear E
  obtain ⟨l1, x0, x1, -, -⟩ := px.facts
  obtain ⟨l2, y0, y1, -, -⟩ := py.facts
  have PX := Lib.hid px
  have PY := Lib.hid py
  have PR := Lib.hid pr
  have RX := Lib.hid rx
  have RY := Lib.hid ry
  have B0 := Lib.hid b0
  clear px py pr rx ry b0
  go_quiet (fail)
  have I0 : Mid W ((W.drewN nq).alloc (.cells (madeCells #[.int .u32 0] (xs.length + ys.length)) 48)) W.heap.size (xs.length + ys.length) (List.replicate (xs.length + ys.length) 0) (0 + ys.length) :=
    ⟨by simp, limbs_noughts _, Row.made (W.drewN nq) _, (below_drewN (Below.refl _ _) nq).alloc (Nat.le_refl _) _, fun k _ => at0_noughts _ _⟩
  have J0 : val (List.replicate (xs.length + ys.length) 0) = val (xs.take 0) * val ys := by simp [val_noughts, val]
  have H0 := Lib.hid (⟨_, I0, J0⟩ : ∃ zs, Mid W ((W.drewN nq).alloc (.cells (madeCells #[.int .u32 0] (xs.length + ys.length)) 48)) W.heap.size (xs.length + ys.length) zs (0 + ys.length) ∧ val zs = val (xs.take 0) * val ys)
  clear I0 J0 l1 x0 x1 l2 y0 y1
  go_wp2_with fail
  clear hmk
  go_loopw [25] (fun s wr => ∃ i : Nat, s = .int .i64 i ∧ i ≤ xs.length ∧ Hid (∃ zs, Mid W wr W.heap.size (xs.length + ys.length) zs (i + ys.length) ∧ val zs = val (xs.take i) * val ys)) (fun s _ => xs.length - (intOf s).toNat)
  case atStart => exact ⟨0, rfl, Nat.zero_le _, H0⟩
  case round =>
    obtain ⟨i, rfl, hi', HR⟩ := hrel
    clear H0
    obtain ⟨zs0, hmid0, hv0⟩ := HR.out
    have HV0 := Lib.hid hv0
    clear HR hv0
    by_cases hlt : i < xs.length
    · have a0 : (0 : Int) ≤ (i : Int) := by omega
      have a1 : (i : Int) < (xs.length : Int) := by omega
      obtain ⟨ad, rfl, hbl, hx⟩ := (RX.out.below hmid0.low).reads.get hlt
      have hbx := Lib.hid (limbs_get RX.out.limbs hlt)
      generalize hxe : xs[i] = x at hx hbx
      have HXE := Lib.hid hxe
      clear hxe
      have H1 := Lib.hid (⟨zs0, hmid0, by simp [val]⟩ : ∃ zs, Mid W wr W.heap.size (xs.length + ys.length) zs (i + ys.length) ∧ val zs + 4294967296 ^ (i + 0) * 0 = val zs0 + 4294967296 ^ i * (x * val (ys.take 0)))
      clear hmid0 hbl
      go_wp2_with fail
      go_loopw [10, 32] (fun t s wr => ∃ k cc : Nat, s = .int .i64 k ∧ t = .int .u64 cc ∧ cc < 4294967296 ∧ k ≤ ys.length ∧ Hid (∃ zs, Mid W wr W.heap.size (xs.length + ys.length) zs (i + ys.length) ∧ val zs + 4294967296 ^ (i + k) * cc = val zs0 + 4294967296 ^ i * (x * val (ys.take k)))) (fun _ s _ => ys.length - (intOf s).toNat)
      case atStart => exact ⟨0, 0, rfl, rfl, by omega, Nat.zero_le _, H1⟩
      case round =>
        obtain ⟨k, cc, rfl, rfl, hcc, hk', HR⟩ := hrel
        clear H1 hx
        obtain ⟨zs, hmid, hv⟩ := HR.out
        have HV := Lib.hid hv
        clear HR hv
        by_cases hlk : k < ys.length
        · have e0 : (0 : Int) ≤ (k : Int) := by omega
          have e1 : (k : Int) < (ys.length : Int) := by omega
          have e2 : (0 : Int) ≤ (i : Int) + (k : Int) := by omega
          have e3 : (i : Int) + (k : Int) < (xs.length : Int) + (ys.length : Int) := by omega
          have hmk : i + k < zs.length := by rw [hmid.len]; omega
          obtain ⟨bd, rfl, hbl, hy⟩ := (RY.out.below hmid.low).reads.get hlk
          have hby := limbs_get RY.out.limbs hlk
          have fz := hmid.row.frozen (i + k)
          have hcell := hmid.row.cell hmk
          have hbo := limbs_get hmid.limbs hmk
          generalize hye : ys[k] = y at hy hby
          generalize hze : zs[i + k] = o at hcell hbo
          obtain ⟨hb1, hb2⟩ := mul_bound hbx.out hby hbo hcc
          have S := Lib.hid (⟨zs.set (i + k) ((cc + x * y + o) % 4294967296), hmid.set (Nat.le_refl _) (by omega) (Nat.mod_lt _ (by omega)), by
            rw [show i + (k + 1) = i + k + 1 by omega, mul_step hmk HV.out (x * y) (cc + x * y + o) (by rw [hze]), val_take_more hlk, hye, Nat.pow_add]
            grind⟩ : ∃ zs', Mid W (wr.setCell ⟨W.heap.size, i + k, none⟩ (.int .u32 (((cc + x * y + o) % 4294967296 : Nat) : Int))) W.heap.size (xs.length + ys.length) zs' (i + ys.length) ∧ val zs' + 4294967296 ^ (i + (k + 1)) * ((cc + x * y + o) / 4294967296) = val zs0 + 4294967296 ^ i * (x * val (ys.take (k + 1))))
          clear hmid hmk hye hze hbl
          go_wp2_with fail
          have e : IntKind.u64.wrap ((cc : Int) + IntKind.u64.wrap (IntKind.u64.wrap (IntKind.u64.wrap (x : Int) * (y : Int)) + (o : Int))) = ((cc + x * y + o : Nat) : Int) := by
            have hx1 := hbx.out
            have hx2 : (x : Int) % 18446744073709551616 = x := by omega
            have hp : (x : Int) * (y : Int) = ((x * y : Nat) : Int) := (Int.natCast_mul x y).symm
            simp only [IntKind.wrap_u64]
            rw [hx2, hp]
            generalize x * y = p at hb1
            omega
          rw [e, show ((cc + x * y + o : Nat) : Int) / 4294967296 = (((cc + x * y + o) / 4294967296 : Nat) : Int) by omega, show ((cc + x * y + o : Nat) : Int) % 4294967296 = (((cc + x * y + o) % 4294967296 : Nat) : Int) by omega]
          go_roundw
          case rel => exact ⟨k + 1, _, by go_num, rfl, hb2, hlk, S⟩
          case measure => simp [intOf]; omega
        · obtain rfl : k = ys.length := by omega
          have hmk : i + ys.length < zs.length := by rw [hmid.len]; omega
          have e2 : (0 : Int) ≤ (i : Int) + (ys.length : Int) := by omega
          have e3 : (i : Int) + (ys.length : Int) < (xs.length : Int) + (ys.length : Int) := by omega
          have hcc2 : (cc : Int) < 4294967296 := by omega
          have fz := hmid.row.frozen (i + ys.length)
          have hcell := hmid.row.cell hmk
          have hze : zs[i + ys.length] = 0 := by rw [← at0_lt hmk]; exact hmid.nought _ (Nat.le_refl _)
          rw [hze] at hcell
          have S := Lib.hid (⟨zs.set (i + ys.length) cc, by rw [show i + 1 + ys.length = i + ys.length + 1 by omega]; exact hmid.more.set (Nat.le_refl _) (by omega) hcc, by
            rw [mul_last hmk HV.out hze, HV0.out, List.take_length, val_take_more hlt, HXE.out]
            grind⟩ : ∃ zs', Mid W (wr.setCell ⟨W.heap.size, i + ys.length, none⟩ (.int .u32 (cc : Int))) W.heap.size (xs.length + ys.length) zs' (i + 1 + ys.length) ∧ val zs' = val (xs.take (i + 1)) * val ys)
          clear hmid hmk hze
          go_wp2_with fail
          go_roundw
          case rel => exact ⟨i + 1, by go_num, hlt, S⟩
          case measure => simp [intOf]; omega
    · obtain rfl : i = xs.length := by omega
      have hown := hmid0.row.ownL (base := W.heap.size) (Nat.le_refl _) (by rw [hmid0.len]; omega) hmid0.limbs
      have hv1 := HV0.out
      rw [List.take_length] at hv1
      rw [hv1, hmid0.len] at hown
      have px := PX.out.below hmid0.low
      have py := PY.out.below hmid0.low
      obtain ⟨l1, x0, x1, -, -⟩ := px.facts
      obtain ⟨l2, y0, y1, -, -⟩ := py.facts
      have C := fun (V : World) (hV : V = wr) => exact_signed_own (n1 != n2) _ _ _ _ V (hV ▸ hown)
      rw [← HZV.out] at C
      have H1 := Lib.hid (C wr rfl)
      have pr := PR.out.below hmid0.low
      have B1 := belowTo B0.out hmid0.low
      have hsz := B0.out.size
      have hlr := PR.out.blk.lt
      clear hown px py C
      go_wp2_with fail
      refine H1.out.mono ?_
      rintro e w1 ⟨v, rfl, hI, hb⟩
      obtain ⟨A1, c1, hv, _⟩ := hI.form
      have hI2 := hI
      rw [hv] at hI2 ⊢
      have pr := pr.below hb
      have B2 := belowTo B1 hb
      obtain ⟨hl, k0, k1, f0, f1⟩ := pr.facts
      clear H1 hv hI l1 x0 x1 l2 y0 y1 hb
      go_wp2_with fail
      have hq := pr.store (.bool (decide (z < 0))) (.slice A1 (natL z.natAbs).length c1)
      obtain ⟨_, k0, k1, _, _⟩ := hq.facts
      exact bodyPost_ret (by simp [results, Tryd.results38, go_sem, k0, k1]) rfl ⟨_, rfl, (hI2.pair (by omega)).base hsz, below2 B2 (by omega) _ _⟩
end Go.Proofs.YtpcdiijmhllejaaDoor
