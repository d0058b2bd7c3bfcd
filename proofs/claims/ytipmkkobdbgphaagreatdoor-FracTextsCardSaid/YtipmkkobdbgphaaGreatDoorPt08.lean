/- Several texts in one: Add, RefBits, Same, Beyond. -/
import Derived.Test.YtipmkkobdbgphaaGreatDoorPt06
import Derived.Test.YtipmkkobdbgphaaGreatDoorPtHd
import Derived.Test.YtipmkkobdbgphaaGreatDoorPt05
import Derived.Test.YtipmkkobdbgphaaGreatDoorPt02
import Derived.Test.YtipmkkobdbgphaaGreatDoorProg
import Derived.WalkKit
import Derived.WalkSpells
import Derived.WalkLawsBesides
import Derived.Lib.Hide
set_option maxRecDepth 100000
set_option maxHeartbeats 8000000
/- add and sub of package exact: what they count. (Written by wip/exact/genadd.py.) -/
namespace Go.Proofs.YtipmkkobdbgphaaGreatDoor
open Go.RowKit

theorem exact_add_ge (A B : Option Addr) (c d : Nat) (xs ys : List Nat) (hle : ys.length ≤ xs.length) (hl : xs.length ≤ 1073741824) (w : World) (h : Raw w A c xs) (g : Raw w B d ys) :
    Calls Tryz.prog 234 #[.slice A xs.length c, .slice B ys.length d] w (RetL w.heap.size w (val xs + val ys) (xs.length + 1)) := by
  have HX := Hd h
  have HY := Hd g
  have hc := h.cap
  have hm := h.most
  have hd := g.cap
  have hn := g.most
  have hcond : decide (xs.length < ys.length) = false := by simp; omega
  clear h g
  obtain ⟨i0, hi, hz0, hz1, hz2⟩ := info_parts limbInfo
  have hmk : ∀ W : World, (Instr.makeSlice 23 (.int .i64 ((xs.length : Int) + 1)) (.int .i64 ((xs.length : Int) + 1))).run Tryz.prog W = .ok (.slice (some ⟨W.heap.size, 0, none⟩) (xs.length + 1) (xs.length + 1)) (W.alloc (.cells (madeCells #[.int .u32 0] (xs.length + 1)) 104)) := fun W => by
    have h := run_make_rowN (P := Tryz.prog) 23 104 i0 _ Tryz.underlying23 hi hz0 .i64 .i64 (xs.length + 1) (xs.length + 1) (by omega) (by rw [hz2]; omega) (by omega) W
    rw [show ((xs.length + 1 : Nat) : Int) = (xs.length : Int) + 1 by omega, hz1, Nat.mul_one] at h
    exact h
  have I0 : ∃ zs, zs.length = xs.length + 1 ∧ Limbs zs ∧ Row (w.alloc (.cells (madeCells #[.int .u32 0] (xs.length + 1)) 104)) w.heap.size zs ∧ Below w.heap.size w (w.alloc (.cells (madeCells #[.int .u32 0] (xs.length + 1)) 104)) ∧ val (zs.take 0) + 4294967296 ^ 0 * 0 = val (xs.take 0) + val (ys.take 0) :=
    ⟨_, by simp, limbs_noughts _, Row.made w _, (Below.refl _ _).alloc (Nat.le_refl _) _, rfl⟩
  have H0 := Hd I0
  clear I0
  go_enter Tryz.func234, Tryz.ntmps234
  go_wp2_with fail
  clear hmk
  go_loopw [6, 22] (fun t s wr => ∃ i k : Nat, s = .int .i64 i ∧ t = .int .u32 k ∧ k ≤ 1 ∧ i ≤ xs.length ∧ Hid (∃ zs, zs.length = xs.length + 1 ∧ Limbs zs ∧ Row wr w.heap.size zs ∧ Below w.heap.size w wr ∧ val (zs.take i) + 4294967296 ^ i * k = val (xs.take i) + val (ys.take i))) (fun _ s _ => xs.length - (intOf s).toNat)
  case atStart => exact ⟨0, 0, rfl, rfl, by omega, Nat.zero_le _, H0⟩
  case round =>
    obtain ⟨i, k, rfl, rfl, hk, hi', HR⟩ := hrel
    clear H0
    obtain ⟨zs, hzl, hz, hrow, hb, hv⟩ := HR.out
    have HV := Hd hv
    have HZ := Hd hz
    clear HR hv hz
    by_cases hlt : i < xs.length
    · have a0 : (0 : Int) ≤ (i : Int) := by omega
      have a1 : (i : Int) < (xs.length : Int) := by omega
      have a2 : (i : Int) < (xs.length : Int) + 1 := by omega
      have fz := hrow.frozen i
      have hcell := hrow.cell (k := i) (by omega)
      obtain ⟨ad, rfl, hbl, hx⟩ := (HX.out.below hb).reads.get hlt
      have hbx := Hd (limbs_get HX.out.limbs hlt)
      have step : ∀ y : Nat, y = at0 ys i → y < 4294967296 → ∃ zs', zs'.length = xs.length + 1 ∧ Limbs zs' ∧ Row (wr.setCell ⟨w.heap.size, i, none⟩ (.int .u32 (((xs[i] + y + k) % 4294967296 : Nat) : Int))) w.heap.size zs' ∧ Below w.heap.size w (wr.setCell ⟨w.heap.size, i, none⟩ (.int .u32 (((xs[i] + y + k) % 4294967296 : Nat) : Int))) ∧ val (zs'.take (i + 1)) + 4294967296 ^ (i + 1) * ((xs[i] + y + k) / 4294967296) = val (xs.take (i + 1)) + val (ys.take (i + 1)) := fun y hy hy2 =>
        ⟨zs.set i _, by simp [hzl], limbs_set HZ.out (Nat.mod_lt _ (by omega)), hrow.set i _, hb.setCell (p := ⟨w.heap.size, i, none⟩) (Nat.le_refl _) _, by
          rw [set_take_more (by omega), add_step (zs := zs.take i) (k := i) (by rw [List.length_take]; omega) (xs[i] + y + k) HV.out (xs[i] + y) rfl, val_take_more hlt, val_take_at0 ys i, ← hy, Nat.mul_add]
          omega⟩
      have HS := Hd step
      have hq : k ≤ 1 := hk
      clear step
      generalize zs[i] = zi at hcell
      generalize hxe : xs[i] = x at hx hbx HS
      clear hxe
      by_cases hy : i < ys.length
      · obtain ⟨bd, rfl, hbl2, hy'⟩ := (HY.out.below hb).reads.get hy
        have b1 : (i : Int) < (ys.length : Int) := by omega
        have hby := Hd (limbs_get HY.out.limbs hy)
        have S := Hd (HS.out ys[i] (at0_lt hy).symm (limbs_get HY.out.limbs hy))
        clear HS
        generalize hye : ys[i] = y at hy' hby S
        clear hye
        have C := Hd (fun V => bits_Add32 x y k hbx.out hby.out hq V)
        have hq2 : (x + y + k) / 4294967296 ≤ 1 := by have := hbx.out; have := hby.out; omega
        generalize (x + y + k) / 4294967296 = cc at C S hq2
        generalize (x + y + k) % 4294967296 = dd at C S
        clear hbl hbl2
        go_wp2_with (first | (go_at_call 241; with_reducible refine (C.out _).mono ?_; rintro e w' ⟨rfl, rfl⟩))
        go_roundw
        case rel => exact ⟨i + 1, cc, by go_num, rfl, hq2, hlt, S⟩
        case measure => simp [intOf]; omega
      · have b1 : (ys.length : Int) ≤ (i : Int) := by omega
        have S := Hd (HS.out 0 (at0_ge (by omega)).symm (by omega))
        clear HS
        have C := Hd (fun V => bits_Add32_0 x k hbx.out hq V)
        have hq2 : (x + 0 + k) / 4294967296 ≤ 1 := by have := hbx.out; omega
        generalize (x + 0 + k) / 4294967296 = cc at C S hq2
        generalize (x + 0 + k) % 4294967296 = dd at C S
        clear hbl
        go_wp2_with (first | (go_at_call 241; with_reducible refine (C.out _).mono ?_; rintro e w' ⟨rfl, rfl⟩))
        go_roundw
        case rel => exact ⟨i + 1, cc, by go_num, rfl, hq2, hlt, S⟩
        case measure => simp [intOf]; omega
    · obtain rfl : i = xs.length := by omega
      have fz := hrow.frozen xs.length
      have hcell := hrow.cell (k := xs.length) (by omega)
      generalize zs[xs.length] = zi at hcell
      have a0 : (0 : Int) ≤ (xs.length : Int) := by omega
      have a2 : (xs.length : Int) < (xs.length : Int) + 1 := by omega
      have hrow2 := hrow.set xs.length k
      have hb2 := hb.setCell (p := ⟨w.heap.size, xs.length, none⟩) (Nat.le_refl _) (.int .u32 (k : Int))
      have hval : val (zs.set xs.length k) = val xs + val ys := by
        have e := set_take_more (zs := zs) (k := xs.length) (d := k) (by omega)
        rw [List.take_of_length_le (by simp; omega)] at e
        have e2 := HV.out
        rw [val_take_all (xs := xs) (k := xs.length) (Nat.le_refl _), val_take_all (xs := ys) (k := xs.length) (by omega)] at e2
        rw [e, val_snoc, List.length_take, Nat.min_eq_left (by omega)]
        exact e2
      have hown := hrow2.ownL (base := w.heap.size) (Nat.le_refl _) (by simp; omega) (limbs_set HZ.out (by omega))
      rw [hval, List.length_set, hzl] at hown
      have HO := Hd hown
      have HB := Hd hb2
      clear hown hb2 hval hrow2 HV HZ HX HY
      go_wp2_with fail
      go_ret
      exact ⟨_, rfl, HO.out, HB.out⟩

theorem exact_add_lt (A B : Option Addr) (c d : Nat) (xs ys : List Nat) (hle : xs.length < ys.length) (hl : ys.length ≤ 1073741824) (w : World) (h : Raw w A c xs) (g : Raw w B d ys) :
    Calls Tryz.prog 234 #[.slice A xs.length c, .slice B ys.length d] w (RetL w.heap.size w (val ys + val xs) (ys.length + 1)) := by
  have HX := Hd g
  have HY := Hd h
  have hc := h.cap
  have hm := h.most
  have hd := g.cap
  have hn := g.most
  have hcond : decide (xs.length < ys.length) = true := by simp; omega
  clear h g
  obtain ⟨i0, hi, hz0, hz1, hz2⟩ := info_parts limbInfo
  have hmk : ∀ W : World, (Instr.makeSlice 23 (.int .i64 ((ys.length : Int) + 1)) (.int .i64 ((ys.length : Int) + 1))).run Tryz.prog W = .ok (.slice (some ⟨W.heap.size, 0, none⟩) (ys.length + 1) (ys.length + 1)) (W.alloc (.cells (madeCells #[.int .u32 0] (ys.length + 1)) 104)) := fun W => by
    have h := run_make_rowN (P := Tryz.prog) 23 104 i0 _ Tryz.underlying23 hi hz0 .i64 .i64 (ys.length + 1) (ys.length + 1) (by omega) (by rw [hz2]; omega) (by omega) W
    rw [show ((ys.length + 1 : Nat) : Int) = (ys.length : Int) + 1 by omega, hz1, Nat.mul_one] at h
    exact h
  have I0 : ∃ zs, zs.length = ys.length + 1 ∧ Limbs zs ∧ Row (w.alloc (.cells (madeCells #[.int .u32 0] (ys.length + 1)) 104)) w.heap.size zs ∧ Below w.heap.size w (w.alloc (.cells (madeCells #[.int .u32 0] (ys.length + 1)) 104)) ∧ val (zs.take 0) + 4294967296 ^ 0 * 0 = val (ys.take 0) + val (xs.take 0) :=
    ⟨_, by simp, limbs_noughts _, Row.made w _, (Below.refl _ _).alloc (Nat.le_refl _) _, rfl⟩
  have H0 := Hd I0
  clear I0
  go_enter Tryz.func234, Tryz.ntmps234
  go_wp2_with fail
  clear hmk
  go_loopw [6, 22] (fun t s wr => ∃ i k : Nat, s = .int .i64 i ∧ t = .int .u32 k ∧ k ≤ 1 ∧ i ≤ ys.length ∧ Hid (∃ zs, zs.length = ys.length + 1 ∧ Limbs zs ∧ Row wr w.heap.size zs ∧ Below w.heap.size w wr ∧ val (zs.take i) + 4294967296 ^ i * k = val (ys.take i) + val (xs.take i))) (fun _ s _ => ys.length - (intOf s).toNat)
  case atStart => exact ⟨0, 0, rfl, rfl, by omega, Nat.zero_le _, H0⟩
  case round =>
    obtain ⟨i, k, rfl, rfl, hk, hi', HR⟩ := hrel
    clear H0
    obtain ⟨zs, hzl, hz, hrow, hb, hv⟩ := HR.out
    have HV := Hd hv
    have HZ := Hd hz
    clear HR hv hz
    by_cases hlt : i < ys.length
    · have a0 : (0 : Int) ≤ (i : Int) := by omega
      have a1 : (i : Int) < (ys.length : Int) := by omega
      have a2 : (i : Int) < (ys.length : Int) + 1 := by omega
      have fz := hrow.frozen i
      have hcell := hrow.cell (k := i) (by omega)
      obtain ⟨ad, rfl, hbl, hx⟩ := (HX.out.below hb).reads.get hlt
      have hbx := Hd (limbs_get HX.out.limbs hlt)
      have step : ∀ y : Nat, y = at0 xs i → y < 4294967296 → ∃ zs', zs'.length = ys.length + 1 ∧ Limbs zs' ∧ Row (wr.setCell ⟨w.heap.size, i, none⟩ (.int .u32 (((ys[i] + y + k) % 4294967296 : Nat) : Int))) w.heap.size zs' ∧ Below w.heap.size w (wr.setCell ⟨w.heap.size, i, none⟩ (.int .u32 (((ys[i] + y + k) % 4294967296 : Nat) : Int))) ∧ val (zs'.take (i + 1)) + 4294967296 ^ (i + 1) * ((ys[i] + y + k) / 4294967296) = val (ys.take (i + 1)) + val (xs.take (i + 1)) := fun y hy hy2 =>
        ⟨zs.set i _, by simp [hzl], limbs_set HZ.out (Nat.mod_lt _ (by omega)), hrow.set i _, hb.setCell (p := ⟨w.heap.size, i, none⟩) (Nat.le_refl _) _, by
          rw [set_take_more (by omega), add_step (zs := zs.take i) (k := i) (by rw [List.length_take]; omega) (ys[i] + y + k) HV.out (ys[i] + y) rfl, val_take_more hlt, val_take_at0 xs i, ← hy, Nat.mul_add]
          omega⟩
      have HS := Hd step
      have hq : k ≤ 1 := hk
      clear step
      generalize zs[i] = zi at hcell
      generalize hxe : ys[i] = x at hx hbx HS
      clear hxe
      by_cases hy : i < xs.length
      · obtain ⟨bd, rfl, hbl2, hy'⟩ := (HY.out.below hb).reads.get hy
        have b1 : (i : Int) < (xs.length : Int) := by omega
        have hby := Hd (limbs_get HY.out.limbs hy)
        have S := Hd (HS.out xs[i] (at0_lt hy).symm (limbs_get HY.out.limbs hy))
        clear HS
        generalize hye : xs[i] = y at hy' hby S
        clear hye
        have C := Hd (fun V => bits_Add32 x y k hbx.out hby.out hq V)
        have hq2 : (x + y + k) / 4294967296 ≤ 1 := by have := hbx.out; have := hby.out; omega
        generalize (x + y + k) / 4294967296 = cc at C S hq2
        generalize (x + y + k) % 4294967296 = dd at C S
        clear hbl hbl2
        go_wp2_with (first | (go_at_call 241; with_reducible refine (C.out _).mono ?_; rintro e w' ⟨rfl, rfl⟩))
        go_roundw
        case rel => exact ⟨i + 1, cc, by go_num, rfl, hq2, hlt, S⟩
        case measure => simp [intOf]; omega
      · have b1 : (xs.length : Int) ≤ (i : Int) := by omega
        have S := Hd (HS.out 0 (at0_ge (by omega)).symm (by omega))
        clear HS
        have C := Hd (fun V => bits_Add32_0 x k hbx.out hq V)
        have hq2 : (x + 0 + k) / 4294967296 ≤ 1 := by have := hbx.out; omega
        generalize (x + 0 + k) / 4294967296 = cc at C S hq2
        generalize (x + 0 + k) % 4294967296 = dd at C S
        clear hbl
        go_wp2_with (first | (go_at_call 241; with_reducible refine (C.out _).mono ?_; rintro e w' ⟨rfl, rfl⟩))
        go_roundw
        case rel => exact ⟨i + 1, cc, by go_num, rfl, hq2, hlt, S⟩
        case measure => simp [intOf]; omega
    · obtain rfl : i = ys.length := by omega
      have fz := hrow.frozen ys.length
      have hcell := hrow.cell (k := ys.length) (by omega)
      generalize zs[ys.length] = zi at hcell
      have a0 : (0 : Int) ≤ (ys.length : Int) := by omega
      have a2 : (ys.length : Int) < (ys.length : Int) + 1 := by omega
      have hrow2 := hrow.set ys.length k
      have hb2 := hb.setCell (p := ⟨w.heap.size, ys.length, none⟩) (Nat.le_refl _) (.int .u32 (k : Int))
      have hval : val (zs.set ys.length k) = val ys + val xs := by
        have e := set_take_more (zs := zs) (k := ys.length) (d := k) (by omega)
        rw [List.take_of_length_le (by simp; omega)] at e
        have e2 := HV.out
        rw [val_take_all (xs := ys) (k := ys.length) (Nat.le_refl _), val_take_all (xs := xs) (k := ys.length) (by omega)] at e2
        rw [e, val_snoc, List.length_take, Nat.min_eq_left (by omega)]
        exact e2
      have hown := hrow2.ownL (base := w.heap.size) (Nat.le_refl _) (by simp; omega) (limbs_set HZ.out (by omega))
      rw [hval, List.length_set, hzl] at hown
      have HO := Hd hown
      have HB := Hd hb2
      clear hown hb2 hval hrow2 HV HZ HX HY
      go_wp2_with fail
      go_ret
      exact ⟨_, rfl, HO.out, HB.out⟩

theorem exact_add (A B : Option Addr) (c d : Nat) (xs ys : List Nat) (hx : xs.length ≤ 1073741824) (hy : ys.length ≤ 1073741824) (w : World) (h : Raw w A c xs) (g : Raw w B d ys) :
    Calls Tryz.prog 234 #[.slice A xs.length c, .slice B ys.length d] w (RetL w.heap.size w (val xs + val ys) (max xs.length ys.length + 1)) := by
  by_cases hle : ys.length ≤ xs.length
  · rw [Nat.max_eq_left hle]
    exact exact_add_ge A B c d xs ys hle hx w h g
  · rw [Nat.max_eq_right (by omega), Nat.add_comm (val xs)]
    exact exact_add_lt A B c d xs ys (by omega) hy w h g

theorem exact_sub (A B : Option Addr) (c d : Nat) (xs ys : List Nat) (hle : ys.length ≤ xs.length) (hvl : val ys ≤ val xs) (hl : xs.length ≤ 1073741824) (w : World) (h : Raw w A c xs) (g : Raw w B d ys) :
    Calls Tryz.prog 235 #[.slice A xs.length c, .slice B ys.length d] w (RetL w.heap.size w (val xs - val ys) xs.length) := by
  have HX := Hd h
  have HY := Hd g
  have hc := h.cap
  have hm := h.most
  have hd := g.cap
  have hn := g.most
  have HVL := Hd hvl
  clear h g hvl
  obtain ⟨i0, hi, hz0, hz1, hz2⟩ := info_parts limbInfo
  have hmk : ∀ W : World, (Instr.makeSlice 23 (.int .i64 (xs.length : Int)) (.int .i64 (xs.length : Int))).run Tryz.prog W = .ok (.slice (some ⟨W.heap.size, 0, none⟩) xs.length xs.length) (W.alloc (.cells (madeCells #[.int .u32 0] xs.length) 104)) := fun W => by
    have h := run_make_rowN (P := Tryz.prog) 23 104 i0 _ Tryz.underlying23 hi hz0 .i64 .i64 xs.length xs.length (by omega) (by rw [hz2]; omega) (by omega) W
    rw [hz1, Nat.mul_one] at h
    exact h
  have I0 : ∃ zs, zs.length = xs.length ∧ Limbs zs ∧ Row (w.alloc (.cells (madeCells #[.int .u32 0] xs.length) 104)) w.heap.size zs ∧ Below w.heap.size w (w.alloc (.cells (madeCells #[.int .u32 0] xs.length) 104)) ∧ val (zs.take 0) + val (ys.take 0) = val (xs.take 0) + 4294967296 ^ 0 * 0 :=
    ⟨_, by simp, limbs_noughts _, Row.made w _, (Below.refl _ _).alloc (Nat.le_refl _) _, rfl⟩
  have H0 := Hd I0
  clear I0
  go_enter Tryz.func235, Tryz.ntmps235
  go_wp2_with fail
  clear hmk
  go_loopw [6, 14] (fun t s wr => ∃ i k : Nat, s = .int .i64 i ∧ t = .int .u32 k ∧ k ≤ 1 ∧ i ≤ xs.length ∧ Hid (∃ zs, zs.length = xs.length ∧ Limbs zs ∧ Row wr w.heap.size zs ∧ Below w.heap.size w wr ∧ val (zs.take i) + val (ys.take i) = val (xs.take i) + 4294967296 ^ i * k)) (fun _ s _ => xs.length - (intOf s).toNat)
  case atStart => exact ⟨0, 0, rfl, rfl, by omega, Nat.zero_le _, H0⟩
  case round =>
    obtain ⟨i, k, rfl, rfl, hk, hi', HR⟩ := hrel
    clear H0
    obtain ⟨zs, hzl, hz, hrow, hb, hv⟩ := HR.out
    have HV := Hd hv
    have HZ := Hd hz
    clear HR hv hz
    by_cases hlt : i < xs.length
    · have a0 : (0 : Int) ≤ (i : Int) := by omega
      have a1 : (i : Int) < (xs.length : Int) := by omega
      have fz := hrow.frozen i
      have hcell := hrow.cell (k := i) (by omega)
      obtain ⟨ad, rfl, hbl, hx⟩ := (HX.out.below hb).reads.get hlt
      have hbx := Hd (limbs_get HX.out.limbs hlt)
      have step : ∀ y dd cc : Nat, y = at0 ys i → dd < 4294967296 → dd + y + k = xs[i] + 4294967296 * cc → ∃ zs', zs'.length = xs.length ∧ Limbs zs' ∧ Row (wr.setCell ⟨w.heap.size, i, none⟩ (.int .u32 (dd : Int))) w.heap.size zs' ∧ Below w.heap.size w (wr.setCell ⟨w.heap.size, i, none⟩ (.int .u32 (dd : Int))) ∧ val (zs'.take (i + 1)) + val (ys.take (i + 1)) = val (xs.take (i + 1)) + 4294967296 ^ (i + 1) * cc := fun y dd cc hy hd hcc =>
        ⟨zs.set i _, by simp [hzl], limbs_set HZ.out hd, hrow.set i _, hb.setCell (p := ⟨w.heap.size, i, none⟩) (Nat.le_refl _) _, by
          rw [set_take_more (by omega), val_take_more hlt, val_take_at0 ys i, ← hy, sub_step (zs := zs.take i) (k := i) (by rw [List.length_take]; omega) HV.out xs[i] y dd cc hcc]⟩
      have HS := Hd step
      have hq : k ≤ 1 := hk
      clear step
      generalize zs[i] = zi at hcell
      generalize hxe : xs[i] = x at hx hbx HS
      clear hxe
      by_cases hy : i < ys.length
      · obtain ⟨bd, rfl, hbl2, hy'⟩ := (HY.out.below hb).reads.get hy
        have b1 : (i : Int) < (ys.length : Int) := by omega
        have hby := Hd (limbs_get HY.out.limbs hy)
        have S := Hd (HS.out ys[i] ((x + 4294967296 - ys[i] - k) % 4294967296) (if x < ys[i] + k then 1 else 0) (at0_lt hy).symm (Nat.mod_lt _ (by omega)) (by have := hbx.out; have := hby.out; split <;> omega))
        clear HS
        generalize hye : ys[i] = y at hy' hby S
        clear hye
        have C := Hd (fun V => bits_Sub32 x y k hbx.out hby.out hq V)
        have hq2 : (if x < y + k then 1 else 0) ≤ 1 := by split <;> omega
        generalize (if x < y + k then 1 else 0) = cc at C S hq2
        generalize (x + 4294967296 - y - k) % 4294967296 = dd at C S
        clear hbl hbl2
        go_wp2_with (first | (go_at_call 263; with_reducible refine (C.out _).mono ?_; rintro e w' ⟨rfl, rfl⟩))
        go_roundw
        case rel => exact ⟨i + 1, cc, by go_num, rfl, hq2, hlt, S⟩
        case measure => simp [intOf]; omega
      · have b1 : (ys.length : Int) ≤ (i : Int) := by omega
        have S := Hd (HS.out 0 ((x + 4294967296 - 0 - k) % 4294967296) (if x < 0 + k then 1 else 0) (at0_ge (by omega)).symm (Nat.mod_lt _ (by omega)) (by have := hbx.out; split <;> omega))
        clear HS
        have C := Hd (fun V => bits_Sub32_0 x k hbx.out hq V)
        have hq2 : (if x < 0 + k then 1 else 0) ≤ 1 := by split <;> omega
        generalize (if x < 0 + k then 1 else 0) = cc at C S hq2
        generalize (x + 4294967296 - 0 - k) % 4294967296 = dd at C S
        clear hbl
        go_wp2_with (first | (go_at_call 263; with_reducible refine (C.out _).mono ?_; rintro e w' ⟨rfl, rfl⟩))
        go_roundw
        case rel => exact ⟨i + 1, cc, by go_num, rfl, hq2, hlt, S⟩
        case measure => simp [intOf]; omega
    · obtain rfl : i = xs.length := by omega
      have hval : val zs = val xs - val ys := by
        have e2 := HV.out
        rw [← hzl, val_take_all (xs := zs) (k := zs.length) (Nat.le_refl _), hzl, val_take_all (xs := xs) (k := xs.length) (Nat.le_refl _), val_take_all (xs := ys) (k := xs.length) (by omega)] at e2
        have e3 := val_lt HZ.out
        rw [hzl] at e3
        have e4 := HVL.out
        rcases (by omega : k = 0 ∨ k = 1) with rfl | rfl
        · omega
        · generalize 4294967296 ^ xs.length = P at *
          omega
      have hown := hrow.ownL_cut (base := w.heap.size) (Nat.le_refl _) (by omega) HZ.out
      have htrim := fun V (e : V = wr) => exact_trim (some ⟨w.heap.size, 0, none⟩) zs.length zs HZ.out (Nat.le_refl _) (by omega) V.heap.size V (e ▸ hrow.reads)
      rw [hzl] at htrim hown
      have C := Hd (htrim wr rfl)
      have HO := Hd hown
      have HE := Hd hval
      have HB := Hd hb
      clear hown htrim hval HV HZ HX HY hrow hb
      go_wp2_with (first | (go_at_call 217; with_reducible refine C.out.mono ?_; rintro e w' ⟨rfl, rfl⟩))
      go_ret
      exact ⟨_, rfl, by rw [← HE.out]; exact HO.out, HB.out⟩
/- Bits of the references: a loop. -/

theorem bitLen_step (y : Nat) (h0 : y ≠ 0) (h : y < 4294967296) : Lib.bitLen y = Lib.bitLen (y / 2) + 1 := by
  rw [Lib.bitLen_half y h0 (by omega)]; omega

theorem ref_Bits_more (neg : Bool) (A : Option Addr) (c : Nat) (xs : List Nat) (w : World) (h : Raw w A c xs) (k : Nat) (hk : xs.length = k + 1) (hl : xs.length ≤ 268435456) :
    Calls Tryz.prog 242 #[.agg #[.bool neg, .slice A xs.length c]] w fun e w' => e = .returned (.int .i64 (32 * (k : Int) + (Lib.bitLen (xs[k]) : Nat))) ∧ Below w.heap.size w w' := by
  have h1 := h.cap
  have h2 := h.most
  have hlim := limbs_get h.limbs (k := k) (by omega)
  obtain ⟨ad, rfl, hbl, hcell⟩ := h.reads.get (k := k) (by omega)
  have hbk : (ad.add k).block < w.heap.size := by rw [block_of_add]; exact hbl
  generalize xs[k] = y at hcell hlim ⊢
  rw [hk] at h1 hl ⊢
  clear h hk
  have hy := bitLen_le64 y
  go_enter Tryz.func242, Tryz.ntmps242
  go_wp2_with fail
  go_loop [3, 4] (fun n t => ∃ z : Nat, t = .int .u32 z ∧ z ≤ y ∧ Lib.bitLen z ≤ Lib.bitLen y ∧ n = .int .i64 (32 * (k : Int) + ((Lib.bitLen y - Lib.bitLen z : Nat) : Int))) (fun _ t => (intOf t).toNat)
  case atStart => exact ⟨y, rfl, Nat.le_refl _, Nat.le_refl _, by rw [Nat.sub_self]; simp⟩
  case round =>
    obtain ⟨z, rfl, hz, hle, rfl⟩ := hrel
    by_cases h0 : z = 0
    · subst h0
      go_wp2_with fail
      go_ret
      exact ⟨rfl, by repeat (first | exact Below.refl _ _ | refine Below.alloc ?_ (by simp; try omega) _)⟩
    · have hpos : 0 < z := by omega
      have hs := bitLen_step z h0 (by omega)
      have HS := Hd hs
      have e : 32 * (k : Int) + ((Lib.bitLen y - Lib.bitLen z : Nat) : Int) + 1 = 32 * (k : Int) + ((Lib.bitLen y - Lib.bitLen (z / 2) : Nat) : Int) := by omega
      have HE := Hd e
      have hl2 : Lib.bitLen (z / 2) ≤ Lib.bitLen y := by omega
      have hlz : Lib.bitLen y - Lib.bitLen z ≤ 64 := by omega
      clear hs e h0
      generalize Lib.bitLen y - Lib.bitLen z = d at *
      go_wp2_with fail
      go_round
      case rel => exact ⟨z / 2, by go_num, by omega, hl2, by rw [HE.out]⟩
      case measure => simp [intOf]; omega

theorem ref_Bits_any (neg : Bool) (A : Option Addr) (c : Nat) (xs : List Nat) (w : World) (h : Raw w A c xs) (hl : xs.length ≤ 268435456) :
    Calls Tryz.prog 242 #[.agg #[.bool neg, .slice A xs.length c]] w fun e w' => e = .returned (.int .i64 (bitsI xs)) ∧ Below w.heap.size w w' := by
  rcases Nat.eq_zero_or_pos xs.length with h0 | h0
  · have e : (bitsI xs : Int) = 0 := by simp [bitsI, h0]
    rw [e, h0]
    clear h h0 hl e
    go_enter Tryz.func242, Tryz.ntmps242
    go_wp2
    go_ret
    exact ⟨rfl, by repeat (first | exact Below.refl _ _ | apply below_drewN | refine Below.alloc ?_ (by simp; try omega) _)⟩
  · obtain ⟨k, hk⟩ : ∃ k, xs.length = k + 1 := ⟨xs.length - 1, by omega⟩
    have e : (bitsI xs : Int) = 32 * (k : Int) + (Lib.bitLen (xs[k]) : Nat) := by
      simp [bitsI, hk, getLast_get hk]
    rw [e]
    exact ref_Bits_more neg A c xs w h k hk hl
/- SameInt: the same sign, the same limbs. -/

theorem take_more_eq {xs ys : List Nat} {k : Nat} (hx : k < xs.length) (hy : k < ys.length) (h : xs.take k = ys.take k) (e : xs[k] = ys[k]) : xs.take (k + 1) = ys.take (k + 1) := by
  rw [List.take_succ_eq_append_getElem hx, List.take_succ_eq_append_getElem hy, h, e]

theorem same_loop (neg : Bool) (A B : Option Addr) (c d : Nat) (xs ys : List Nat) (hlen : xs.length = ys.length) (w : World) (h : Raw w A c xs) (g : Raw w B d ys) :
    Calls Tryz.prog 51 #[.agg #[.bool neg, .slice A xs.length c], .agg #[.bool neg, .slice B ys.length d]] w fun e w' => e = .returned (.bool (decide (xs = ys))) ∧ Below w.heap.size w w' := by
  have HX := Hd h
  have HY := Hd g
  have hm := h.most
  have hc := h.cap
  have HE := Hd hlen
  rw [← hlen]
  clear h g hlen
  go_enter Tryz.func51, Tryz.ntmps51
  go_wp2_with fail
  go_loopw [5] (fun i wr => ∃ k m : Nat, i = .int .i64 k ∧ k ≤ xs.length ∧ xs.take k = ys.take k ∧ wr = ((w.alloc (.cells #[.bool neg, .slice A xs.length c] 25)).alloc (.cells #[.bool neg, .slice B xs.length d] 25)).drewN m) (fun i _ => xs.length - (intOf i).toNat)
  case atStart => exact ⟨0, 0, rfl, Nat.zero_le _, rfl, rfl⟩
  case round =>
    obtain ⟨k, m, rfl, hk, htake, rfl⟩ := hrel
    have HT := Hd htake
    clear htake
    by_cases hlt : k < xs.length
    · have hlt2 : k < ys.length := by rw [← HE.out]; exact hlt
      obtain ⟨ad, rfl, hbl, hcell⟩ := HX.out.reads.get hlt
      obtain ⟨bd, rfl, hbl2, hcell2⟩ := HY.out.reads.get hlt2
      have hbk : (ad.add k).block < w.heap.size := by rw [block_of_add]; exact hbl
      have hbk2 : (bd.add k).block < w.heap.size := by rw [block_of_add]; exact hbl2
      have a0 : (0 : Int) ≤ (k : Int) := by omega
      have a1 : (k : Int) < (xs.length : Int) := by omega
      by_cases he : xs[k] = ys[k]
      · have HQ := Hd he
        rw [← he] at hcell2
        generalize hz : xs[k] = z at hcell hcell2
        clear he hz
        go_wp2_with fail
        go_quiet (fail)
        go_wp2_with fail
        go_roundw
        case rel => exact ⟨k + 1, _, by go_num, hlt, take_more_eq hlt hlt2 HT.out HQ.out, rfl⟩
        case measure => simp [intOf]; omega
      · have hne : ((xs[k] : Int) == (ys[k] : Int)) = false := by simp; omega
        have hne2 : ((xs[k] : Int) != (ys[k] : Int)) = true := by simp; omega
        have hd : decide (xs = ys) = false := by simp; rintro rfl; exact he rfl
        have HD := Hd hd
        clear hd
        have HQ := Hd he
        clear he
        generalize xs[k] = y at *
        generalize ys[k] = z at *
        go_wp2_with fail
        go_quiet (fail)
        go_wp2
        go_ret
        exact ⟨by rw [HD.out]; rfl, by repeat (first | exact Below.refl _ _ | apply below_drewN | refine Below.alloc ?_ (by simp; try omega) _)⟩
    · have hd : decide (xs = ys) = true := by
        have e := HT.out
        rw [List.take_of_length_le (by omega), List.take_of_length_le (by rw [← HE.out]; omega)] at e
        simp [e]
      have HD := Hd hd
      clear hd
      go_wp2
      go_ret
      exact ⟨by rw [HD.out]; rfl, by repeat (first | exact Below.refl _ _ | apply below_drewN | refine Below.alloc ?_ (by simp; try omega) _)⟩

theorem same_sign (n1 n2 : Bool) (hn : n1 ≠ n2) (A B : Option Addr) (c d n m : Nat) (w : World) :
    Calls Tryz.prog 51 #[.agg #[.bool n1, .slice A n c], .agg #[.bool n2, .slice B m d]] w fun e w' => e = .returned (.bool false) ∧ Below w.heap.size w w' := by
  cases n1 <;> cases n2
  · exact absurd rfl hn
  · clear hn
    go_enter Tryz.func51, Tryz.ntmps51
    go_wp2
    go_ret
    exact ⟨rfl, by repeat (first | exact Below.refl _ _ | apply below_drewN | refine Below.alloc ?_ (by simp; try omega) _)⟩
  · clear hn
    go_enter Tryz.func51, Tryz.ntmps51
    go_wp2
    go_ret
    exact ⟨rfl, by repeat (first | exact Below.refl _ _ | apply below_drewN | refine Below.alloc ?_ (by simp; try omega) _)⟩
  · exact absurd rfl hn

theorem same_length (neg : Bool) (A B : Option Addr) (c d n m : Nat) (hn : n ≠ m) (w : World) :
    Calls Tryz.prog 51 #[.agg #[.bool neg, .slice A n c], .agg #[.bool neg, .slice B m d]] w fun e w' => e = .returned (.bool false) ∧ Below w.heap.size w w' := by
  have h1 : ((n : Int) == (m : Int)) = false := by simp; omega
  have h2 : ((n : Int) != (m : Int)) = true := by simp; omega
  clear hn
  go_enter Tryz.func51, Tryz.ntmps51
  go_wp2
  go_ret
  exact ⟨rfl, by repeat (first | exact Below.refl _ _ | apply below_drewN | refine Below.alloc ?_ (by simp; try omega) _)⟩

theorem same_any (n1 n2 : Bool) (A B : Option Addr) (c d : Nat) (xs ys : List Nat) (w : World) (h : Raw w A c xs) (g : Raw w B d ys) :
    Calls Tryz.prog 51 #[.agg #[.bool n1, .slice A xs.length c], .agg #[.bool n2, .slice B ys.length d]] w fun e w' => e = .returned (.bool (decide (n1 = n2 ∧ xs = ys))) ∧ Below w.heap.size w w' := by
  by_cases hn : n1 = n2
  · subst hn
    by_cases hl : xs.length = ys.length
    · have e : decide (n1 = n1 ∧ xs = ys) = decide (xs = ys) := by simp
      rw [e]
      exact same_loop n1 A B c d xs ys hl w h g
    · have e : decide (n1 = n1 ∧ xs = ys) = false := by simp; rintro rfl; exact hl rfl
      rw [e]
      exact same_length n1 A B c d _ _ hl w
  · have e : decide (n1 = n2 ∧ xs = ys) = false := by simp [hn]
    rw [e]
    exact same_sign n1 n2 hn A B c d _ _ w
/- Beyond: whether sizes, taken together, are too much to be copied. -/

def cellsI (zs : List Nat) : List Value := zs.map fun x : Nat => .int .i64 (x : Int)
theorem cellsI_length (zs : List Nat) : (cellsI zs).length = zs.length := by simp [cellsI]
theorem cellsI_get {zs : List Nat} {k : Nat} (h : k < zs.length) : (cellsI zs)[k]? = some (.int .i64 zs[k]) := by simp [cellsI, h]
theorem sum_take_le (zs : List Nat) (k : Nat) : (zs.take k).sum ≤ zs.sum := by
  have h := List.take_append_drop k zs
  have : zs.sum = (zs.take k).sum + (zs.drop k).sum := by rw [← List.sum_append, h]
  omega
theorem sum_take_more (zs : List Nat) (k : Nat) (h : k < zs.length) : (zs.take (k + 1)).sum = (zs.take k).sum + zs[k] := by
  rw [List.take_succ_eq_append_getElem h, List.sum_append]; simp

end Go.Proofs.YtipmkkobdbgphaaGreatDoor
