/- Several texts in one: Times, RefMul. -/
import Derived.Test.YtbdliabfdplohaaDoorBt07
import Derived.BigQuiet
import Derived.Test.YtbdliabfdplohaaDoorBt08
import Derived.Test.YtbdliabfdplohaaDoorBtHd
set_option maxRecDepth 100000
set_option maxHeartbeats 8000000
/- Times of package exact: what it counts. -/
namespace Go.Proofs.YtbdliabfdplohaaDoor
open Go.RowKit

structure Mid (w0 wr : World) (g L : Nat) (zs : List Nat) (top : Nat) : Prop where
  len : zs.length = L
  limbs : Limbs zs
  row : Row wr g zs
  low : Below w0.heap.size w0 wr
  nought : ∀ k, top ≤ k → at0 zs k = 0
theorem Mid.set {w0 wr : World} {g L : Nat} {zs : List Nat} {top m d : Nat} (h : Mid w0 wr g L zs top) (hg : w0.heap.size ≤ g) (hm : m < top) (hd : d < 4294967296) : Mid w0 (wr.setCell ⟨g, m, none⟩ (.int .u32 (d : Int))) g L (zs.set m d) top :=
  ⟨by simp [h.len], limbs_set h.limbs hd, h.row.set m d, h.low.setCell (p := ⟨g, m, none⟩) hg _, fun k hk => by rw [at0_set_ne (by omega)]; exact h.nought k hk⟩
theorem Mid.more {w0 wr : World} {g L : Nat} {zs : List Nat} {top : Nat} (h : Mid w0 wr g L zs top) : Mid w0 wr g L zs (top + 1) :=
  ⟨h.len, h.limbs, h.row, h.low, fun k hk => h.nought k (by omega)⟩

/- mul, times of the references: what they count. -/

theorem Mid.drewN {w0 wr : World} {g L : Nat} {zs : List Nat} {top : Nat} (h : Mid w0 wr g L zs top) (n : Nat) : Mid w0 (wr.drewN n) g L zs top :=
  ⟨h.len, h.limbs, ⟨h.row.blk.drewN n⟩, below_drewN h.low n, h.nought⟩

theorem ref_mulN (A B : Option Addr) (c d : Nat) (xs ys : List Nat) (hlx : xs.length ≤ 536870912) (hly : ys.length ≤ 536870912) (w : World) (h : Raw w A c xs) (g : Raw w B d ys) :
    Calls Tryd.prog 67 #[.slice A xs.length c, .slice B ys.length d] w (RetN w.heap.size w (val xs * val ys)) := by
  have hc := h.cap
  have hm := h.most
  have hd := g.cap
  have hn := g.most
  have RX := Hd h
  have RY := Hd g
  clear h g
  obtain ⟨i0, hi, hz0, hz1, hz2⟩ := info_parts limbInfo
  have hmk : ∀ W : World, (Instr.makeSlice 22 (.int .i64 ((xs.length : Int) + (ys.length : Int))) (.int .i64 ((xs.length : Int) + (ys.length : Int)))).run Tryd.prog W = .ok (.slice (some ⟨W.heap.size, 0, none⟩) (xs.length + ys.length) (xs.length + ys.length)) (W.alloc (.cells (madeCells #[.int .u32 0] (xs.length + ys.length)) 40)) := fun W => by
    have h := run_make_rowN (P := Tryd.prog) 22 40 i0 _ Tryd.underlying22 hi hz0 .i64 .i64 (xs.length + ys.length) (xs.length + ys.length) (by omega) (by rw [hz2]; omega) (by omega) W
    rw [show ((xs.length + ys.length : Nat) : Int) = (xs.length : Int) + (ys.length : Int) by omega, hz1, Nat.mul_one] at h
    exact h
  have I0 : Mid w (w.alloc (.cells (madeCells #[.int .u32 0] (xs.length + ys.length)) 40)) w.heap.size (xs.length + ys.length) (List.replicate (xs.length + ys.length) 0) (0 + ys.length) :=
    ⟨by simp, limbs_noughts _, Row.made w _, (Below.refl _ _).alloc (Nat.le_refl _) _, fun k _ => at0_noughts _ _⟩
  have J0 : val (List.replicate (xs.length + ys.length) 0) = val (xs.take 0) * val ys := by simp [val_noughts, val]
  have H0 := Hd (⟨_, I0, J0⟩ : ∃ zs, Mid w (w.alloc (.cells (madeCells #[.int .u32 0] (xs.length + ys.length)) 40)) w.heap.size (xs.length + ys.length) zs (0 + ys.length) ∧ val zs = val (xs.take 0) * val ys)
  clear I0 J0
  go_enter Tryd.func67, Tryd.ntmps67
  go_wp2_with fail
  clear hmk
  go_loopw [6] (fun s wr => ∃ i : Nat, s = .int .i64 i ∧ i ≤ xs.length ∧ Hid (∃ zs, Mid w wr w.heap.size (xs.length + ys.length) zs (i + ys.length) ∧ val zs = val (xs.take i) * val ys)) (fun s _ => xs.length - (intOf s).toNat)
  case atStart => exact ⟨0, rfl, Nat.zero_le _, H0⟩
  case round =>
    obtain ⟨i, rfl, hi', HR⟩ := hrel
    clear H0
    obtain ⟨zs0, hmid0, hv0⟩ := HR.out
    have HV0 := Hd hv0
    clear HR hv0
    by_cases hlt : i < xs.length
    · have a0 : (0 : Int) ≤ (i : Int) := by omega
      have a1 : (i : Int) < (xs.length : Int) := by omega
      obtain ⟨x, hxe⟩ : ∃ x, xs[i] = x := ⟨_, rfl⟩
      have HXE := Hd hxe
      have H1 := Hd (⟨zs0, hmid0, by simp [val]⟩ : ∃ zs, Mid w wr w.heap.size (xs.length + ys.length) zs (i + ys.length) ∧ val zs + 4294967296 ^ (i + 0) * 0 = val zs0 + 4294967296 ^ i * (x * val (ys.take 0)))
      clear hmid0 hxe
      go_wp2_with fail
      go_loopw [7, 8] (fun t s wr => ∃ k cc : Nat, s = .int .i64 k ∧ t = .int .u64 cc ∧ cc < 4294967296 ∧ k ≤ ys.length ∧ Hid (∃ zs, Mid w wr w.heap.size (xs.length + ys.length) zs (i + ys.length) ∧ val zs + 4294967296 ^ (i + k) * cc = val zs0 + 4294967296 ^ i * (x * val (ys.take k)))) (fun _ s _ => ys.length - (intOf s).toNat)
      case atStart => exact ⟨0, 0, rfl, rfl, by omega, Nat.zero_le _, H1⟩
      case round =>
        obtain ⟨k, cc, rfl, rfl, hcc, hk', HR⟩ := hrel
        clear H1
        obtain ⟨zs, hmid, hv⟩ := HR.out
        have HV := Hd hv
        clear HR hv
        by_cases hlk : k < ys.length
        · have e0 : (0 : Int) ≤ (k : Int) := by omega
          have e1 : (k : Int) < (ys.length : Int) := by omega
          have e2 : (0 : Int) ≤ (i : Int) + (k : Int) := by omega
          have e3 : (i : Int) + (k : Int) < (xs.length : Int) + (ys.length : Int) := by omega
          have e4 : IntKind.i64.wrap ((i : Int) + (k : Int)) = (i : Int) + (k : Int) := IntWalk.i64_in _ (by omega)
          have hmk : i + k < zs.length := by rw [hmid.len]; omega
          obtain ⟨ad, rfl, hbl0, hx⟩ := (RX.out.below hmid.low).reads.get hlt
          obtain ⟨bd, rfl, hbl, hy⟩ := (RY.out.below hmid.low).reads.get hlk
          have hbx := limbs_get RX.out.limbs hlt
          have hby := limbs_get RY.out.limbs hlk
          have fz := hmid.row.frozen (i + k)
          have hcell := hmid.row.cell hmk
          have hbo := limbs_get hmid.limbs hmk
          rw [HXE.out] at hx hbx
          generalize hye : ys[k] = y at hy hby
          generalize hze : zs[i + k] = o at hcell hbo
          obtain ⟨hb1, hb2⟩ := mul_bound hbx hby hbo hcc
          rw [show cc + x * y + o = x * y + o + cc by omega] at hb1 hb2
          have HX1 := Hd hbx
          have hl0 := hmid.low.size
          have hlw := hmid.row.lt
          have q1 : (ad.add i).block < wr.heap.size := by rw [block_of_add]; omega
          have q2 : (bd.add k).block < wr.heap.size := by rw [block_of_add]; omega
          have S : ∀ nq : Nat, ∃ zs', Mid w ((wr.drewN nq).setCell ⟨w.heap.size, i + k, none⟩ (.int .u32 (((x * y + o + cc) % 4294967296 : Nat) : Int))) w.heap.size (xs.length + ys.length) zs' (i + ys.length) ∧ val zs' + 4294967296 ^ (i + (k + 1)) * ((x * y + o + cc) / 4294967296) = val zs0 + 4294967296 ^ i * (x * val (ys.take (k + 1))) := fun nq =>
            ⟨zs.set (i + k) ((x * y + o + cc) % 4294967296), (hmid.drewN nq).set (Nat.le_refl _) (by omega) (Nat.mod_lt _ (by omega)), by
            rw [show i + (k + 1) = i + k + 1 by omega, mul_step hmk HV.out (x * y) (x * y + o + cc) (by rw [hze]; omega), val_take_more hlk, hye, Nat.pow_add]
            grind⟩
          have HS := Hd S
          clear hmk hye hze S
          go_wp2_with fail
          go_quiet (fail)
          go_wp2_with fail
          go_roundw
          case rel => exact ⟨k + 1, _, by go_num, rfl, hb2, hlk, Hd (HS.out _)⟩
          case measure => simp [intOf]; omega
        · obtain rfl : k = ys.length := by omega
          have hmk : i + ys.length < zs.length := by rw [hmid.len]; omega
          have e2 : (0 : Int) ≤ (i : Int) + (ys.length : Int) := by omega
          have e3 : (i : Int) + (ys.length : Int) < (xs.length : Int) + (ys.length : Int) := by omega
          have hcc2 : (cc : Int) < 4294967296 := by omega
          have fz := hmid.row.frozen (i + ys.length)
          have hcell := hmid.row.cell hmk
          have hze : zs[i + ys.length] = 0 := by rw [← at0_lt hmk]; exact hmid.nought _ (Nat.le_refl _)
          rw [hze] at hcell
          have S := Hd (⟨zs.set (i + ys.length) cc, by rw [show i + 1 + ys.length = i + ys.length + 1 by omega]; exact hmid.more.set (Nat.le_refl _) (by omega) hcc, by
            rw [mul_last hmk HV.out hze, HV0.out, List.take_length, val_take_more hlt, HXE.out]
            grind⟩ : ∃ zs', Mid w (wr.setCell ⟨w.heap.size, i + ys.length, none⟩ (.int .u32 (cc : Int))) w.heap.size (xs.length + ys.length) zs' (i + 1 + ys.length) ∧ val zs' = val (xs.take (i + 1)) * val ys)
          clear hmid hmk hze
          go_wp2_with fail
          go_roundw
          case rel => exact ⟨i + 1, by go_num, hlt, S⟩
          case measure => simp [intOf]; omega
    · obtain rfl : i = xs.length := by omega
      have hv1 := HV0.out
      rw [List.take_length] at hv1
      have hown := hmid0.row.ownL_cut (base := w.heap.size) (Nat.le_refl _) (by rw [hmid0.len]; omega) hmid0.limbs
      have htrim := fun V (e : V = wr) => ref_trim (some ⟨w.heap.size, 0, none⟩) zs0.length zs0 hmid0.limbs (Nat.le_refl _) (by rw [hmid0.len]; omega) V.heap.size V (e ▸ hmid0.row.reads)
      rw [hmid0.len] at htrim hown
      have C := Hd (htrim wr rfl)
      have HO := Hd hown
      have HE := Hd hv1
      have HB := Hd hmid0.low
      clear hown htrim hv1 HV0 RX RY hmid0
      go_wp2_with (first | (go_at_call 42; with_reducible refine C.out.mono ?_; rintro e w' ⟨rfl, rfl⟩))
      go_ret
      exact ⟨_, rfl, by rw [← HE.out]; exact OwnN.of_ownL HO.out, HB.out⟩
end Go.Proofs.YtbdliabfdplohaaDoor
