/- Several texts in one: Add, RefBits. -/
import Derived.Test.YtpcdiijmhllejaaDoorBk07
import Derived.Test.YtpcdiijmhllejaaDoorBk06
/- add and sub of package exact: what they count. (Written by wip/exact/genadd.py.) -/
namespace Go.Proofs.YtpcdiijmhllejaaDoor
open Go.RowKit

set_option maxRecDepth 100000 in
set_option maxHeartbeats 1000000 in
theorem exact_add_ge (A B : Option Addr) (c d : Nat) (xs ys : List Nat) (hle : ys.length ≤ xs.length) (hl : xs.length ≤ 1073741824) (w : World) (h : Raw w A c xs) (g : Raw w B d ys) :
    Calls Tryd.prog 51 #[.slice A xs.length c, .slice B ys.length d] w (RetL w.heap.size w (val xs + val ys) (xs.length + 1)) := by
  have HX := Lib.hid h
  have HY := Lib.hid g
  have hc := h.cap
  have hm := h.most
  have hd := g.cap
  have hn := g.most
  have hcond : decide (xs.length < ys.length) = false := by simp; omega
  clear h g
  obtain ⟨i0, hi, hz0, hz1, hz2⟩ := info_parts limbInfo
  have hmk : ∀ W : World, (Instr.makeSlice 22 (.int .i64 ((xs.length : Int) + 1)) (.int .i64 ((xs.length : Int) + 1))).run Tryd.prog W = .ok (.slice (some ⟨W.heap.size, 0, none⟩) (xs.length + 1) (xs.length + 1)) (W.alloc (.cells (madeCells #[.int .u32 0] (xs.length + 1)) 48)) := fun W => by
    have h := run_make_rowN (P := Tryd.prog) 22 48 i0 _ Tryd.underlying22 hi hz0 .i64 .i64 (xs.length + 1) (xs.length + 1) (by omega) (by rw [hz2]; omega) (by omega) W
    rw [show ((xs.length + 1 : Nat) : Int) = (xs.length : Int) + 1 by omega, hz1, Nat.mul_one] at h
    exact h
  have I0 : ∃ zs, zs.length = xs.length + 1 ∧ Limbs zs ∧ Row (w.alloc (.cells (madeCells #[.int .u32 0] (xs.length + 1)) 48)) w.heap.size zs ∧ Below w.heap.size w (w.alloc (.cells (madeCells #[.int .u32 0] (xs.length + 1)) 48)) ∧ val (zs.take 0) + 4294967296 ^ 0 * 0 = val (xs.take 0) + val (ys.take 0) :=
    ⟨_, by simp, limbs_noughts _, Row.made w _, (Below.refl _ _).alloc (Nat.le_refl _) _, rfl⟩
  have H0 := Lib.hid I0
  clear I0
  go_enter Tryd.func51, Tryd.ntmps51
  go_wp2_with fail
  clear hmk
  go_loopw [6, 22] (fun t s wr => ∃ i k : Nat, s = .int .i64 i ∧ t = .int .u32 k ∧ k ≤ 1 ∧ i ≤ xs.length ∧ Hid (∃ zs, zs.length = xs.length + 1 ∧ Limbs zs ∧ Row wr w.heap.size zs ∧ Below w.heap.size w wr ∧ val (zs.take i) + 4294967296 ^ i * k = val (xs.take i) + val (ys.take i))) (fun _ s _ => xs.length - (intOf s).toNat)
  case atStart => exact ⟨0, 0, rfl, rfl, by omega, Nat.zero_le _, H0⟩
  case round =>
    obtain ⟨i, k, rfl, rfl, hk, hi', HR⟩ := hrel
    clear H0
    obtain ⟨zs, hzl, hz, hrow, hb, hv⟩ := HR.out
    have HV := Lib.hid hv
    have HZ := Lib.hid hz
    clear HR hv hz
    by_cases hlt : i < xs.length
    · have a0 : (0 : Int) ≤ (i : Int) := by omega
      have a1 : (i : Int) < (xs.length : Int) := by omega
      have a2 : (i : Int) < (xs.length : Int) + 1 := by omega
      have fz := hrow.frozen i
      have hcell := hrow.cell (k := i) (by omega)
      obtain ⟨ad, rfl, hbl, hx⟩ := (HX.out.below hb).reads.get hlt
      have hbx := Lib.hid (limbs_get HX.out.limbs hlt)
      have step : ∀ y : Nat, y = at0 ys i → y < 4294967296 → ∃ zs', zs'.length = xs.length + 1 ∧ Limbs zs' ∧ Row (wr.setCell ⟨w.heap.size, i, none⟩ (.int .u32 (((xs[i] + y + k) % 4294967296 : Nat) : Int))) w.heap.size zs' ∧ Below w.heap.size w (wr.setCell ⟨w.heap.size, i, none⟩ (.int .u32 (((xs[i] + y + k) % 4294967296 : Nat) : Int))) ∧ val (zs'.take (i + 1)) + 4294967296 ^ (i + 1) * ((xs[i] + y + k) / 4294967296) = val (xs.take (i + 1)) + val (ys.take (i + 1)) := fun y hy hy2 =>
        ⟨zs.set i _, by simp [hzl], limbs_set HZ.out (Nat.mod_lt _ (by omega)), hrow.set i _, hb.setCell (p := ⟨w.heap.size, i, none⟩) (Nat.le_refl _) _, by
          rw [set_take_more (by omega), add_step (zs := zs.take i) (k := i) (by rw [List.length_take]; omega) (xs[i] + y + k) HV.out (xs[i] + y) rfl, val_take_more hlt, val_take_at0 ys i, ← hy, Nat.mul_add]
          omega⟩
      have HS := Lib.hid step
      have hq : k ≤ 1 := hk
      clear step
      generalize zs[i] = zi at hcell
      generalize hxe : xs[i] = x at hx hbx HS
      clear hxe
      by_cases hy : i < ys.length
      · obtain ⟨bd, rfl, hbl2, hy'⟩ := (HY.out.below hb).reads.get hy
        have b1 : (i : Int) < (ys.length : Int) := by omega
        have hby := Lib.hid (limbs_get HY.out.limbs hy)
        have S := Lib.hid (HS.out ys[i] (at0_lt hy).symm (limbs_get HY.out.limbs hy))
        clear HS
        generalize hye : ys[i] = y at hy' hby S
        clear hye
        have C := Lib.hid (fun V => bits_Add32 x y k hbx.out hby.out hq V)
        have hq2 : (x + y + k) / 4294967296 ≤ 1 := by have := hbx.out; have := hby.out; omega
        generalize (x + y + k) / 4294967296 = cc at C S hq2
        generalize (x + y + k) % 4294967296 = dd at C S
        clear hbl hbl2
        go_wp2_with (first | (go_at_call 64; with_reducible refine (C.out _).mono ?_; rintro e w' ⟨rfl, rfl⟩))
        go_roundw
        case rel => exact ⟨i + 1, cc, by go_num, rfl, hq2, hlt, S⟩
        case measure => simp [intOf]; omega
      · have b1 : (ys.length : Int) ≤ (i : Int) := by omega
        have S := Lib.hid (HS.out 0 (at0_ge (by omega)).symm (by omega))
        clear HS
        have C := Lib.hid (fun V => bits_Add32_0 x k hbx.out hq V)
        have hq2 : (x + 0 + k) / 4294967296 ≤ 1 := by have := hbx.out; omega
        generalize (x + 0 + k) / 4294967296 = cc at C S hq2
        generalize (x + 0 + k) % 4294967296 = dd at C S
        clear hbl
        go_wp2_with (first | (go_at_call 64; with_reducible refine (C.out _).mono ?_; rintro e w' ⟨rfl, rfl⟩))
        go_roundw
        case rel => exact ⟨i + 1, cc, by go_num, rfl, hq2, hlt, S⟩
        case measure => simp [intOf]; omega
    · obtain rfl : i = xs.length := by omega
      have fz := hrow.frozen xs.length
      have hcell := hrow.cell (k := xs.length) (by omega)
      generalize zs[xs.length] = zi at hcell
      have a0 : (0 : Int) ≤ (xs.length : Int) := by omega
      have a2 : (xs.length : Int) < (xs.length : Int) + 1 := by omega
      have hrow2 := hrow.set xs.length k
      have hb2 := hb.setCell (p := ⟨w.heap.size, xs.length, none⟩) (Nat.le_refl _) (.int .u32 (k : Int))
      have hval : val (zs.set xs.length k) = val xs + val ys := by
        have e := set_take_more (zs := zs) (k := xs.length) (d := k) (by omega)
        rw [List.take_of_length_le (by simp; omega)] at e
        have e2 := HV.out
        rw [val_take_all (xs := xs) (k := xs.length) (Nat.le_refl _), val_take_all (xs := ys) (k := xs.length) (by omega)] at e2
        rw [e, val_snoc, List.length_take, Nat.min_eq_left (by omega)]
        exact e2
      have hown := hrow2.ownL (base := w.heap.size) (Nat.le_refl _) (by simp; omega) (limbs_set HZ.out (by omega))
      rw [hval, List.length_set, hzl] at hown
      have HO := Lib.hid hown
      have HB := Lib.hid hb2
      clear hown hb2 hval hrow2 HV HZ HX HY
      go_wp2_with fail
      go_ret
      exact ⟨_, rfl, HO.out, HB.out⟩

set_option maxRecDepth 100000 in
set_option maxHeartbeats 1000000 in
theorem exact_add_lt (A B : Option Addr) (c d : Nat) (xs ys : List Nat) (hle : xs.length < ys.length) (hl : ys.length ≤ 1073741824) (w : World) (h : Raw w A c xs) (g : Raw w B d ys) :
    Calls Tryd.prog 51 #[.slice A xs.length c, .slice B ys.length d] w (RetL w.heap.size w (val ys + val xs) (ys.length + 1)) := by
  have HX := Lib.hid g
  have HY := Lib.hid h
  have hc := h.cap
  have hm := h.most
  have hd := g.cap
  have hn := g.most
  have hcond : decide (xs.length < ys.length) = true := by simp; omega
  clear h g
  obtain ⟨i0, hi, hz0, hz1, hz2⟩ := info_parts limbInfo
  have hmk : ∀ W : World, (Instr.makeSlice 22 (.int .i64 ((ys.length : Int) + 1)) (.int .i64 ((ys.length : Int) + 1))).run Tryd.prog W = .ok (.slice (some ⟨W.heap.size, 0, none⟩) (ys.length + 1) (ys.length + 1)) (W.alloc (.cells (madeCells #[.int .u32 0] (ys.length + 1)) 48)) := fun W => by
    have h := run_make_rowN (P := Tryd.prog) 22 48 i0 _ Tryd.underlying22 hi hz0 .i64 .i64 (ys.length + 1) (ys.length + 1) (by omega) (by rw [hz2]; omega) (by omega) W
    rw [show ((ys.length + 1 : Nat) : Int) = (ys.length : Int) + 1 by omega, hz1, Nat.mul_one] at h
    exact h
  have I0 : ∃ zs, zs.length = ys.length + 1 ∧ Limbs zs ∧ Row (w.alloc (.cells (madeCells #[.int .u32 0] (ys.length + 1)) 48)) w.heap.size zs ∧ Below w.heap.size w (w.alloc (.cells (madeCells #[.int .u32 0] (ys.length + 1)) 48)) ∧ val (zs.take 0) + 4294967296 ^ 0 * 0 = val (ys.take 0) + val (xs.take 0) :=
    ⟨_, by simp, limbs_noughts _, Row.made w _, (Below.refl _ _).alloc (Nat.le_refl _) _, rfl⟩
  have H0 := Lib.hid I0
  clear I0
  go_enter Tryd.func51, Tryd.ntmps51
  go_wp2_with fail
  clear hmk
  go_loopw [6, 22] (fun t s wr => ∃ i k : Nat, s = .int .i64 i ∧ t = .int .u32 k ∧ k ≤ 1 ∧ i ≤ ys.length ∧ Hid (∃ zs, zs.length = ys.length + 1 ∧ Limbs zs ∧ Row wr w.heap.size zs ∧ Below w.heap.size w wr ∧ val (zs.take i) + 4294967296 ^ i * k = val (ys.take i) + val (xs.take i))) (fun _ s _ => ys.length - (intOf s).toNat)
  case atStart => exact ⟨0, 0, rfl, rfl, by omega, Nat.zero_le _, H0⟩
  case round =>
    obtain ⟨i, k, rfl, rfl, hk, hi', HR⟩ := hrel
    clear H0
    obtain ⟨zs, hzl, hz, hrow, hb, hv⟩ := HR.out
    have HV := Lib.hid hv
    have HZ := Lib.hid hz
    clear HR hv hz
    by_cases hlt : i < ys.length
    · have a0 : (0 : Int) ≤ (i : Int) := by omega
      have a1 : (i : Int) < (ys.length : Int) := by omega
      have a2 : (i : Int) < (ys.length : Int) + 1 := by omega
      have fz := hrow.frozen i
      have hcell := hrow.cell (k := i) (by omega)
      obtain ⟨ad, rfl, hbl, hx⟩ := (HX.out.below hb).reads.get hlt
      have hbx := Lib.hid (limbs_get HX.out.limbs hlt)
      have step : ∀ y : Nat, y = at0 xs i → y < 4294967296 → ∃ zs', zs'.length = ys.length + 1 ∧ Limbs zs' ∧ Row (wr.setCell ⟨w.heap.size, i, none⟩ (.int .u32 (((ys[i] + y + k) % 4294967296 : Nat) : Int))) w.heap.size zs' ∧ Below w.heap.size w (wr.setCell ⟨w.heap.size, i, none⟩ (.int .u32 (((ys[i] + y + k) % 4294967296 : Nat) : Int))) ∧ val (zs'.take (i + 1)) + 4294967296 ^ (i + 1) * ((ys[i] + y + k) / 4294967296) = val (ys.take (i + 1)) + val (xs.take (i + 1)) := fun y hy hy2 =>
        ⟨zs.set i _, by simp [hzl], limbs_set HZ.out (Nat.mod_lt _ (by omega)), hrow.set i _, hb.setCell (p := ⟨w.heap.size, i, none⟩) (Nat.le_refl _) _, by
          rw [set_take_more (by omega), add_step (zs := zs.take i) (k := i) (by rw [List.length_take]; omega) (ys[i] + y + k) HV.out (ys[i] + y) rfl, val_take_more hlt, val_take_at0 xs i, ← hy, Nat.mul_add]
          omega⟩
      have HS := Lib.hid step
      have hq : k ≤ 1 := hk
      clear step
      generalize zs[i] = zi at hcell
      generalize hxe : ys[i] = x at hx hbx HS
      clear hxe
      by_cases hy : i < xs.length
      · obtain ⟨bd, rfl, hbl2, hy'⟩ := (HY.out.below hb).reads.get hy
        have b1 : (i : Int) < (xs.length : Int) := by omega
        have hby := Lib.hid (limbs_get HY.out.limbs hy)
        have S := Lib.hid (HS.out xs[i] (at0_lt hy).symm (limbs_get HY.out.limbs hy))
        clear HS
        generalize hye : xs[i] = y at hy' hby S
        clear hye
        have C := Lib.hid (fun V => bits_Add32 x y k hbx.out hby.out hq V)
        have hq2 : (x + y + k) / 4294967296 ≤ 1 := by have := hbx.out; have := hby.out; omega
        generalize (x + y + k) / 4294967296 = cc at C S hq2
        generalize (x + y + k) % 4294967296 = dd at C S
        clear hbl hbl2
        go_wp2_with (first | (go_at_call 64; with_reducible refine (C.out _).mono ?_; rintro e w' ⟨rfl, rfl⟩))
        go_roundw
        case rel => exact ⟨i + 1, cc, by go_num, rfl, hq2, hlt, S⟩
        case measure => simp [intOf]; omega
      · have b1 : (xs.length : Int) ≤ (i : Int) := by omega
        have S := Lib.hid (HS.out 0 (at0_ge (by omega)).symm (by omega))
        clear HS
        have C := Lib.hid (fun V => bits_Add32_0 x k hbx.out hq V)
        have hq2 : (x + 0 + k) / 4294967296 ≤ 1 := by have := hbx.out; omega
        generalize (x + 0 + k) / 4294967296 = cc at C S hq2
        generalize (x + 0 + k) % 4294967296 = dd at C S
        clear hbl
        go_wp2_with (first | (go_at_call 64; with_reducible refine (C.out _).mono ?_; rintro e w' ⟨rfl, rfl⟩))
        go_roundw
        case rel => exact ⟨i + 1, cc, by go_num, rfl, hq2, hlt, S⟩
        case measure => simp [intOf]; omega
    · obtain rfl : i = ys.length := by omega
      have fz := hrow.frozen ys.length
      have hcell := hrow.cell (k := ys.length) (by omega)
      generalize zs[ys.length] = zi at hcell
      have a0 : (0 : Int) ≤ (ys.length : Int) := by omega
      have a2 : (ys.length : Int) < (ys.length : Int) + 1 := by omega
      have hrow2 := hrow.set ys.length k
      have hb2 := hb.setCell (p := ⟨w.heap.size, ys.length, none⟩) (Nat.le_refl _) (.int .u32 (k : Int))
      have hval : val (zs.set ys.length k) = val ys + val xs := by
        have e := set_take_more (zs := zs) (k := ys.length) (d := k) (by omega)
        rw [List.take_of_length_le (by simp; omega)] at e
        have e2 := HV.out
        rw [val_take_all (xs := ys) (k := ys.length) (Nat.le_refl _), val_take_all (xs := xs) (k := ys.length) (by omega)] at e2
        rw [e, val_snoc, List.length_take, Nat.min_eq_left (by omega)]
        exact e2
      have hown := hrow2.ownL (base := w.heap.size) (Nat.le_refl _) (by simp; omega) (limbs_set HZ.out (by omega))
      rw [hval, List.length_set, hzl] at hown
      have HO := Lib.hid hown
      have HB := Lib.hid hb2
      clear hown hb2 hval hrow2 HV HZ HX HY
      go_wp2_with fail
      go_ret
      exact ⟨_, rfl, HO.out, HB.out⟩

theorem exact_add (A B : Option Addr) (c d : Nat) (xs ys : List Nat) (hx : xs.length ≤ 1073741824) (hy : ys.length ≤ 1073741824) (w : World) (h : Raw w A c xs) (g : Raw w B d ys) :
    Calls Tryd.prog 51 #[.slice A xs.length c, .slice B ys.length d] w (RetL w.heap.size w (val xs + val ys) (max xs.length ys.length + 1)) := by
  by_cases hle : ys.length ≤ xs.length
  · rw [Nat.max_eq_left hle]
    exact exact_add_ge A B c d xs ys hle hx w h g
  · rw [Nat.max_eq_right (by omega), Nat.add_comm (val xs)]
    exact exact_add_lt A B c d xs ys (by omega) hy w h g

set_option maxRecDepth 100000 in
set_option maxHeartbeats 1000000 in
theorem exact_sub (A B : Option Addr) (c d : Nat) (xs ys : List Nat) (hle : ys.length ≤ xs.length) (hvl : val ys ≤ val xs) (hl : xs.length ≤ 1073741824) (w : World) (h : Raw w A c xs) (g : Raw w B d ys) :
    Calls Tryd.prog 52 #[.slice A xs.length c, .slice B ys.length d] w (RetL w.heap.size w (val xs - val ys) xs.length) := by
  have HX := Lib.hid h
  have HY := Lib.hid g
  have hc := h.cap
  have hm := h.most
  have hd := g.cap
  have hn := g.most
  have HVL := Lib.hid hvl
  clear h g hvl
  obtain ⟨i0, hi, hz0, hz1, hz2⟩ := info_parts limbInfo
  have hmk : ∀ W : World, (Instr.makeSlice 22 (.int .i64 (xs.length : Int)) (.int .i64 (xs.length : Int))).run Tryd.prog W = .ok (.slice (some ⟨W.heap.size, 0, none⟩) xs.length xs.length) (W.alloc (.cells (madeCells #[.int .u32 0] xs.length) 48)) := fun W => by
    have h := run_make_rowN (P := Tryd.prog) 22 48 i0 _ Tryd.underlying22 hi hz0 .i64 .i64 xs.length xs.length (by omega) (by rw [hz2]; omega) (by omega) W
    rw [hz1, Nat.mul_one] at h
    exact h
  have I0 : ∃ zs, zs.length = xs.length ∧ Limbs zs ∧ Row (w.alloc (.cells (madeCells #[.int .u32 0] xs.length) 48)) w.heap.size zs ∧ Below w.heap.size w (w.alloc (.cells (madeCells #[.int .u32 0] xs.length) 48)) ∧ val (zs.take 0) + val (ys.take 0) = val (xs.take 0) + 4294967296 ^ 0 * 0 :=
    ⟨_, by simp, limbs_noughts _, Row.made w _, (Below.refl _ _).alloc (Nat.le_refl _) _, rfl⟩
  have H0 := Lib.hid I0
  clear I0
  go_enter Tryd.func52, Tryd.ntmps52
  go_wp2_with fail
  clear hmk
  go_loopw [6, 14] (fun t s wr => ∃ i k : Nat, s = .int .i64 i ∧ t = .int .u32 k ∧ k ≤ 1 ∧ i ≤ xs.length ∧ Hid (∃ zs, zs.length = xs.length ∧ Limbs zs ∧ Row wr w.heap.size zs ∧ Below w.heap.size w wr ∧ val (zs.take i) + val (ys.take i) = val (xs.take i) + 4294967296 ^ i * k)) (fun _ s _ => xs.length - (intOf s).toNat)
  case atStart => exact ⟨0, 0, rfl, rfl, by omega, Nat.zero_le _, H0⟩
  case round =>
    obtain ⟨i, k, rfl, rfl, hk, hi', HR⟩ := hrel
    clear H0
    obtain ⟨zs, hzl, hz, hrow, hb, hv⟩ := HR.out
    have HV := Lib.hid hv
    have HZ := Lib.hid hz
    clear HR hv hz
    by_cases hlt : i < xs.length
    · have a0 : (0 : Int) ≤ (i : Int) := by omega
      have a1 : (i : Int) < (xs.length : Int) := by omega
      have fz := hrow.frozen i
      have hcell := hrow.cell (k := i) (by omega)
      obtain ⟨ad, rfl, hbl, hx⟩ := (HX.out.below hb).reads.get hlt
      have hbx := Lib.hid (limbs_get HX.out.limbs hlt)
      have step : ∀ y dd cc : Nat, y = at0 ys i → dd < 4294967296 → dd + y + k = xs[i] + 4294967296 * cc → ∃ zs', zs'.length = xs.length ∧ Limbs zs' ∧ Row (wr.setCell ⟨w.heap.size, i, none⟩ (.int .u32 (dd : Int))) w.heap.size zs' ∧ Below w.heap.size w (wr.setCell ⟨w.heap.size, i, none⟩ (.int .u32 (dd : Int))) ∧ val (zs'.take (i + 1)) + val (ys.take (i + 1)) = val (xs.take (i + 1)) + 4294967296 ^ (i + 1) * cc := fun y dd cc hy hd hcc =>
        ⟨zs.set i _, by simp [hzl], limbs_set HZ.out hd, hrow.set i _, hb.setCell (p := ⟨w.heap.size, i, none⟩) (Nat.le_refl _) _, by
          rw [set_take_more (by omega), val_take_more hlt, val_take_at0 ys i, ← hy, sub_step (zs := zs.take i) (k := i) (by rw [List.length_take]; omega) HV.out xs[i] y dd cc hcc]⟩
      have HS := Lib.hid step
      have hq : k ≤ 1 := hk
      clear step
      generalize zs[i] = zi at hcell
      generalize hxe : xs[i] = x at hx hbx HS
      clear hxe
      by_cases hy : i < ys.length
      · obtain ⟨bd, rfl, hbl2, hy'⟩ := (HY.out.below hb).reads.get hy
        have b1 : (i : Int) < (ys.length : Int) := by omega
        have hby := Lib.hid (limbs_get HY.out.limbs hy)
        have S := Lib.hid (HS.out ys[i] ((x + 4294967296 - ys[i] - k) % 4294967296) (if x < ys[i] + k then 1 else 0) (at0_lt hy).symm (Nat.mod_lt _ (by omega)) (by have := hbx.out; have := hby.out; split <;> omega))
        clear HS
        generalize hye : ys[i] = y at hy' hby S
        clear hye
        have C := Lib.hid (fun V => bits_Sub32 x y k hbx.out hby.out hq V)
        have hq2 : (if x < y + k then 1 else 0) ≤ 1 := by split <;> omega
        generalize (if x < y + k then 1 else 0) = cc at C S hq2
        generalize (x + 4294967296 - y - k) % 4294967296 = dd at C S
        clear hbl hbl2
        go_wp2_with (first | (go_at_call 67; with_reducible refine (C.out _).mono ?_; rintro e w' ⟨rfl, rfl⟩))
        go_roundw
        case rel => exact ⟨i + 1, cc, by go_num, rfl, hq2, hlt, S⟩
        case measure => simp [intOf]; omega
      · have b1 : (ys.length : Int) ≤ (i : Int) := by omega
        have S := Lib.hid (HS.out 0 ((x + 4294967296 - 0 - k) % 4294967296) (if x < 0 + k then 1 else 0) (at0_ge (by omega)).symm (Nat.mod_lt _ (by omega)) (by have := hbx.out; split <;> omega))
        clear HS
        have C := Lib.hid (fun V => bits_Sub32_0 x k hbx.out hq V)
        have hq2 : (if x < 0 + k then 1 else 0) ≤ 1 := by split <;> omega
        generalize (if x < 0 + k then 1 else 0) = cc at C S hq2
        generalize (x + 4294967296 - 0 - k) % 4294967296 = dd at C S
        clear hbl
        go_wp2_with (first | (go_at_call 67; with_reducible refine (C.out _).mono ?_; rintro e w' ⟨rfl, rfl⟩))
        go_roundw
        case rel => exact ⟨i + 1, cc, by go_num, rfl, hq2, hlt, S⟩
        case measure => simp [intOf]; omega
    · obtain rfl : i = xs.length := by omega
      have hval : val zs = val xs - val ys := by
        have e2 := HV.out
        rw [← hzl, val_take_all (xs := zs) (k := zs.length) (Nat.le_refl _), hzl, val_take_all (xs := xs) (k := xs.length) (Nat.le_refl _), val_take_all (xs := ys) (k := xs.length) (by omega)] at e2
        have e3 := val_lt HZ.out
        rw [hzl] at e3
        have e4 := HVL.out
        rcases (by omega : k = 0 ∨ k = 1) with rfl | rfl
        · omega
        · generalize 4294967296 ^ xs.length = P at *
          omega
      have hown := hrow.ownL_cut (base := w.heap.size) (Nat.le_refl _) (by omega) HZ.out
      have htrim := fun V (e : V = wr) => exact_trim (some ⟨w.heap.size, 0, none⟩) zs.length zs HZ.out (Nat.le_refl _) (by omega) V.heap.size V (e ▸ hrow.reads)
      rw [hzl] at htrim hown
      have C := Lib.hid (htrim wr rfl)
      have HO := Lib.hid hown
      have HE := Lib.hid hval
      have HB := Lib.hid hb
      clear hown htrim hval HV HZ HX HY hrow hb
      go_wp2_with (first | (go_at_call 55; with_reducible refine C.out.mono ?_; rintro e w' ⟨rfl, rfl⟩))
      go_ret
      exact ⟨_, rfl, by rw [← HE.out]; exact HO.out, HB.out⟩
end Go.Proofs.YtpcdiijmhllejaaDoor

/- Bits of the references: a loop. -/
namespace Go.Proofs.YtpcdiijmhllejaaDoor
open Go.RowKit

theorem bitLen_step (y : Nat) (h0 : y ≠ 0) (h : y < 4294967296) : Lib.bitLen y = Lib.bitLen (y / 2) + 1 := by
  rw [Lib.bitLen_half y h0 (by omega)]; omega

end Go.Proofs.YtpcdiijmhllejaaDoor
