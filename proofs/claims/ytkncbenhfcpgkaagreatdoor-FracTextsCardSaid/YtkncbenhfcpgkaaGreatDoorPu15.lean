/- Several texts in one: RefDivide, RefQuo, RefDouble, RefCommon. -/
import Derived.Test.YtkncbenhfcpgkaaGreatDoorPu14
import Derived.Test.YtkncbenhfcpgkaaGreatDoorPuHd
import Derived.Test.YtkncbenhfcpgkaaGreatDoorPu07
import Derived.Test.YtkncbenhfcpgkaaGreatDoorPu12
import Derived.Test.YtkncbenhfcpgkaaGreatDoorPu05
import Derived.Test.YtkncbenhfcpgkaaGreatDoorPu04
import Derived.Test.YtkncbenhfcpgkaaGreatDoorPu01
import Derived.Test.YtkncbenhfcpgkaaGreatDoorPu03
import Derived.Test.YtkncbenhfcpgkaaGreatDoorPu02
import Derived.Test.YtkncbenhfcpgkaaGreatDoorPu06
import Derived.Test.YtkncbenhfcpgkaaGreatDoorPu11
import Derived.Test.YtkncbenhfcpgkaaGreatDoorPu13
import Derived.Test.YtkncbenhfcpgkaaGreatDoorPu08
import Derived.Deep.LoopGhost
set_option maxRecDepth 100000
set_option maxHeartbeats 8000000
/- divide of the references: long division, limb by limb. -/
namespace Go.Proofs.YtkncbenhfcpgkaaGreatDoor
open Go.RowKit

def RetNN (base : Nat) (w : World) (n1 n2 : Nat) (e : Ending) (w' : World) : Prop := ∃ v1 v2, e = .returned (.tuple #[v1, v2]) ∧ OwnN w' base v1 n1 ∧ OwnN w' base v2 n2 ∧ Below w.heap.size w w'

theorem below_append {w w' : World} {o : Obj} (h : (w.alloc o).grownBy w' none) : Below w.heap.size w w' :=
  ((Below.refl w.heap.size w).alloc (Nat.le_refl _) o).grown h (by simp) (fun _ hk => by cases hk)
theorem own_setFar {w : World} {base : Nat} {e : TypeId} {size n g k : Nat} {v : Value} {xs : List Value} (h : w.ownsRow base e size v n xs) (hg : g < base) (u : Value) : (w.setCell ⟨g, k, none⟩ u).ownsRow base e size v n xs := by
  refine ⟨h.1, ?_⟩
  rcases h.2 with h2 | ⟨b, cap, cur, h1, h2, h3, h4⟩
  · exact .inl h2
  · exact .inr ⟨b, cap, cur, h1, h2, (Blk.far (t := e) h3 (p := ⟨g, k, none⟩) (show b ≠ g by omega) u), h4⟩
theorem OwnN.far {w : World} {base n g k : Nat} {v : Value} (h : OwnN w base v n) (hg : g < base) (u : Value) : OwnN (w.setCell ⟨g, k, none⟩ u) base v n := by
  obtain ⟨A, c, h1, h2, h3, h4⟩ := h.form
  exact ⟨A, c, h1, h2, h3, own_setFar h4 hg u⟩

structure RDiv (w wr : World) (g : Nat) (xs ys : List Nat) (v : Value) (k R : Nat) (zs : List Nat) : Prop where
  len : zs.length = xs.length
  limbs : Limbs zs
  row : Row wr g zs
  low : Below w.heap.size w wr
  own : OwnN wr (g + 1) v R
  eq : val (zs.drop k) * val ys + R = val (xs.drop k)
  lt : R < val ys
  nought : ∀ j, j < k → at0 zs j = 0
theorem RDiv.skip {w wr wr' : World} {g : Nat} {xs ys : List Nat} {v v' : Value} {k R : Nat} {zs : List Nat} (h : RDiv w wr g xs ys v (k + 1) R zs) (hk : k < xs.length) (hrow : Row wr' g zs) (hlow : Below w.heap.size w wr') (hown : OwnN wr' (g + 1) v' (xs[k] + 4294967296 * R)) (hlt : xs[k] + 4294967296 * R < val ys) :
    RDiv w wr' g xs ys v' k (xs[k] + 4294967296 * R) zs := by
  have hk2 : k < zs.length := by rw [h.len]; exact hk
  have h0 : zs[k] = 0 := by rw [← at0_lt hk2]; exact h.nought k (Nat.lt_succ_self _)
  refine ⟨h.len, h.limbs, hrow, hlow, hown, ?_, hlt, fun j hj => h.nought j (by omega)⟩
  rw [val_drop_more hk2, val_drop_more hk, h0, ← h.eq, Nat.zero_add, Nat.mul_add, Nat.mul_assoc]
  omega
theorem RDiv.take {w wr wr' : World} {g : Nat} {xs ys : List Nat} {v v' : Value} {k R q : Nat} {zs : List Nat} (h : RDiv w wr g xs ys v (k + 1) R zs) (hk : k < xs.length) (hq : q = (xs[k] + 4294967296 * R) / val ys) (hq2 : q < 4294967296) (hrow : Row wr' g (zs.set k q)) (hlow : Below w.heap.size w wr') (hown : OwnN wr' (g + 1) v' (xs[k] + 4294967296 * R - val ys * q)) :
    RDiv w wr' g xs ys v' k (xs[k] + 4294967296 * R - val ys * q) (zs.set k q) := by
  have hk2 : k < zs.length := by rw [h.len]; exact hk
  have hY : 0 < val ys := by have := h.lt; omega
  have hd := Nat.div_add_mod (xs[k] + 4294967296 * R) (val ys)
  have hm := Nat.mod_lt (xs[k] + 4294967296 * R) hY
  rw [← hq] at hd
  refine ⟨by rw [List.length_set]; exact h.len, limbs_set h.limbs hq2, hrow, hlow, hown, ?_, by omega, fun j hj => ?_⟩
  · rw [val_drop_set hk2, val_drop_more hk, ← h.eq, Nat.add_mul, Nat.mul_assoc 4294967296, Nat.mul_add, Nat.mul_comm q]
    omega
  · rw [at0_set_ne (by omega)]; exact h.nought j (by omega)
theorem RDiv.stop {w wr : World} {g : Nat} {xs ys : List Nat} {v : Value} {R : Nat} {zs : List Nat} (h : RDiv w wr g xs ys v 0 R zs) : val zs = val xs / val ys ∧ R = val xs % val ys := by
  have e := h.eq
  have hl := h.lt
  simp only [List.drop_zero] at e
  have hY : 0 < val ys := by omega
  rw [← e]
  constructor
  · rw [Nat.add_comm, Nat.add_mul_div_right _ _ hY, Nat.div_eq_of_lt hl, Nat.zero_add]
  · rw [Nat.mul_add_mod_self_right, Nat.mod_eq_of_lt hl]

theorem fit_lt {x R Y : Nat} (hx : x < 4294967296) (hR : R < Y) : (x + 4294967296 * R) / Y < 4294967296 := by
  rw [Nat.div_lt_iff_lt_mul (by omega)]
  have := Nat.mul_le_mul_left 4294967296 (show R + 1 ≤ Y from hR)
  omega

theorem ref_divide_one (A B : Option Addr) (c d : Nat) (xs ys : List Nat) (hcy : Canon ys) (hyl : ys.length = 1) (hl : xs.length ≤ 1073741824) (w : World) (h : Raw w A c xs) (g : Raw w B d ys) :
    Calls Tryz.prog 184 #[.slice A xs.length c, .slice B ys.length d] w (RetNN w.heap.size w (val xs / val ys) (val xs % val ys)) := by
  have h0 : ys[0] ≠ 0 := hcy _ (getLast_get hyl)
  have hyv : val ys = ys[0] := by
    match ys, hyl with
    | [y], _ => simp [val]
  obtain ⟨ad, rfl, hbl, hy⟩ := g.reads.get (k := 0) (by omega)
  have hby := limbs_get g.limbs (k := 0) (by omega)
  rw [hyv]
  generalize ys[0] = y at h0 hy hby
  simp [Addr.add] at hy
  have C1 := Hd (ref_short A c y xs (by omega) hby hl w h)
  have hrl : val xs % y < 4294967296 := Nat.lt_trans (Nat.mod_lt _ (by omega)) hby
  generalize val xs % y = r at hrl C1
  rw [hyl]
  clear h g hyv hyl hcy h0
  go_enter Tryz.func184, Tryz.ntmps184
  go_wp2_with fail
  refine C1.out.mono ?_
  rintro e w1 ⟨v, rfl, hv, hb⟩
  have hr : Row (w1.alloc (.cells #[.int .u32 r] 70)) w1.heap.size [r] := ⟨Blk.new w1 _ _⟩
  have hl2 : Limbs [r] := by intro x hx; simp at hx; omega
  have hv2 : val [r] = r := by simp [val]
  have C2 := Hd (ref_trim (some ⟨w1.heap.size, 0, none⟩) 1 [r] hl2 (by simp) (by omega) _ (w1.alloc (.cells #[.int .u32 r] 70)) hr.reads)
  have HO := Hd (OwnN.of_ownL (by have := hr.ownL_cut (base := w.heap.size) hb.size (by simp) hl2; rwa [hv2] at this))
  rw [hv2] at C2
  have HV := Hd (hv.below ((Below.refl w1.heap.size w1).alloc (Nat.le_refl _) (.cells #[.int .u32 r] 70)))
  have HB := Hd (hb.alloc hb.size (.cells #[.int .u32 r] 70))
  clear hr hl2 hv2 hv hb C1 hy hbl
  go_wp2_with fail
  refine C2.out.mono ?_
  rintro e w2 ⟨rfl, rfl⟩
  go_wp2_with fail
  go_ret2
  exact ⟨_, _, rfl, HV.out, HO.out, HB.out⟩

theorem ref_divide_many (A B : Option Addr) (c d : Nat) (xs ys : List Nat) (hcy : Canon ys) (hyl : 2 ≤ ys.length) (hlx : xs.length ≤ 536870000) (hly : ys.length ≤ 536870000) (w : World) (h : Raw w A c xs) (g : Raw w B d ys) :
    Calls Tryz.prog 184 #[.slice A xs.length c, .slice B ys.length d] w (RetNN w.heap.size w (val xs / val ys) (val xs % val ys)) := by
  have HX := Hd h
  have HY := Hd g
  have HC := Hd hcy
  have hc := h.cap
  have hm := h.most
  have hY : 0 < val ys := by
    rcases Nat.eq_zero_or_pos (val ys) with h0 | h0
    · have e := natL_val g.limbs hcy
      rw [h0] at e
      rw [← e] at hyl
      simp [natL_zero] at hyl
    · exact h0
  have hlen1 : ((ys.length : Int) == 1) = false := by simp; omega
  obtain ⟨i0, hi, hz0, hz1, hz2⟩ := info_parts limbInfo
  have hmk : ∀ W : World, (Instr.makeSlice 22 (.int .i64 (xs.length : Int)) (.int .i64 (xs.length : Int))).run Tryz.prog W = .ok (.slice (some ⟨W.heap.size, 0, none⟩) xs.length xs.length) (W.alloc (.cells (madeCells #[.int .u32 0] xs.length) 70)) := fun W => by
    have h := run_make_rowN (P := Tryz.prog) 22 70 i0 _ Tryz.underlying22 hi hz0 .i64 .i64 xs.length xs.length (by omega) (by rw [hz2]; omega) (by omega) W
    rw [hz1, Nat.mul_one] at h
    exact h
  have H0 := Hd (⟨0, _, by simp, limbs_noughts _, Row.made w _, (Below.refl _ _).alloc (Nat.le_refl _) _, OwnN.nil, by rw [List.drop_of_length_le (by simp), List.drop_length]; simp [val], hY, fun j _ => at0_noughts _ _⟩ : ∃ R zs, RDiv w (w.alloc (.cells (madeCells #[.int .u32 0] xs.length) 70)) w.heap.size xs ys (.slice none 0 0) xs.length R zs)
  have HP := Hd hY
  clear h g hcy hY
  go_enter Tryz.func184, Tryz.ntmps184
  go_wp2_with fail
  clear hmk
  go_loopw [9, 10, 11, 12] (fun v9 v10 v11 v12 wr => ∃ k : Nat, ∃ i : Int, v10 = .int .i64 i ∧ i = (k : Int) - 1 ∧ k ≤ xs.length ∧ Hid (∃ R zs, RDiv w wr w.heap.size xs ys v9 k R zs)) (fun _ v10 _ _ _ => (intOf v10 + 1).toNat)
  case atStart => exact ⟨xs.length, _, rfl, by omega, Nat.le_refl _, H0⟩
  case round =>
    obtain ⟨k, i, rfl, hik, hk, HR⟩ := hrel
    clear H0
    obtain ⟨R, zs, hs⟩ := HR.out
    have HS := Hd hs
    clear HR hs
    cases k with
    | zero =>
      obtain rfl : i = -1 := by omega
      clear hik
      have htrim := fun V (e : V = wr) => ref_trim (some ⟨w.heap.size, 0, none⟩) zs.length zs HS.out.limbs (Nat.le_refl _) (by rw [HS.out.len]; omega) V.heap.size V (e ▸ HS.out.row.reads)
      have hown := OwnN.of_ownL (HS.out.row.ownL_cut (base := w.heap.size) (Nat.le_refl _) (by rw [HS.out.len]; omega) HS.out.limbs)
      rw [HS.out.len] at htrim hown
      have C := Hd (htrim wr rfl)
      have HO := Hd hown
      have HV := Hd HS.out.stop
      have HO2 := Hd (HS.out.own.base (b' := w.heap.size) (by omega))
      have HB := Hd HS.out.low
      clear hown htrim HS HX HY
      go_wp2_with (first | (go_at_call 185; with_reducible refine C.out.mono ?_; rintro e w' ⟨rfl, rfl⟩))
      go_ret2
      exact ⟨_, _, rfl, by rw [← HV.out.1]; exact HO.out, by rw [← HV.out.2]; exact HO2.out, HB.out⟩
    | succ j =>
      obtain rfl : i = (j : Int) := by omega
      clear hik
      have a0 : (0 : Int) ≤ (j : Int) := by omega
      have a1 : (j : Int) < (xs.length : Int) := by omega
      have hj : j < xs.length := by omega
      obtain ⟨ad, rfl, hbl, hxc⟩ := (HX.out.below HS.out.low).reads.get hj
      have hx := limbs_get HX.out.limbs hj
      obtain ⟨x, hxe⟩ : ∃ x, xs[j] = x := ⟨_, rfl⟩
      rw [hxe] at hxc hx
      have HXE := Hd hxe
      have hlim := HX.out.below HS.out.low
      obtain ⟨A9, c9, rfl, r9⟩ := HS.out.own.raw
      have hR9 : (natL R).length ≤ ys.length := natL_length_le.2 (Nat.lt_trans HS.out.lt (val_lt HY.out.limbs))
      have hl0 := HS.out.low.size
      have hrl := HS.out.row.lt
      clear hxe hlim hbl
      go_wp2_with (first
        | (at_builtin; refine wpList_append_any _ rfl (.tmp 38) (.tmp 43) _ rfl (w.heap.size + 1) 70 i0 _ 1 4 Tryz.underlying22 hi hz0 hz1 hz2 rfl (by omega) _ 0 [] rfl (World.ownsRow_nil _ _ _ _) _ (some ⟨wr.heap.size, 0, none⟩) 1 1 [.int .u32 (x : Int)] rfl (Reads.new1 wr _ 1 _ rfl) (by simp [Value.oneCell']) (by unfold maxLen; omega) (by omega) (by simp; omega) ?_; intro v1 w1 ho1 hg1 hat1)
        | (at_builtin; refine wpList_append_any _ rfl (.tmp 45) (.tmp 46) _ rfl (w.heap.size + 1) 70 i0 _ 1 4 Tryz.underlying22 hi hz0 hz1 hz2 rfl (by omega) _ (0 + 1) _ rfl ho1 _ A9 (natL R).length c9 (cellsU (natL R)) rfl (r9.reads.below (below_append hg1)) (cellsU_one _) (by unfold maxLen; omega) (by omega) (by have := hg1.size; simp at this; omega) ?_; intro v2 w2 ho2 hg2 hat2))
      have hrow2 : Row w2 w.heap.size zs := by
        have h1 : Row w1 w.heap.size zs := HS.out.row.below (below_append hg1)
        refine ⟨h1.blk.stays hg2 (fun e => ?_)⟩
        have := (ho1.lt w.heap.size e.symm).1
        omega
      have hlow2 : Below w.heap.size w w2 := by
        refine (belowTo HS.out.low (below_append hg1)).grown hg2 (by have := hg1.size; simp at this; omega) (fun k hk => ?_)
        have := (ho1.lt k hk).1
        omega
      have e2 : [] ++ [Value.int .u32 (x : Int)] ++ cellsU (natL R) = cellsU (x :: natL R) := by simp [cellsU]
      rw [e2] at ho2
      have hl2 : Limbs (x :: natL R) := limbs_cons.2 ⟨hx, limbs_natL _⟩
      have hlen2 : (x :: natL R).length = 0 + 1 + (natL R).length := by simp; omega
      rw [← hlen2] at ho2
      have hval2 : val (x :: natL R) = x + 4294967296 * R := by simp only [val, val_natL]
      obtain ⟨A2, c2, he2, hz2', hz3', hz4'⟩ := (OwnX.of_own hl2 ho2).form
      have C1 := ref_trim A2 c2 (x :: natL R) hl2 hz2' hz3' w2.heap.size w2 (Reads.of_own hz4')
      have hown2 := OwnN.of_ownL (OwnL.cut hl2 hz2' hz3' hz4' (Nat.le_refl _))
      rw [hval2] at hown2 C1
      rw [← he2] at C1
      obtain ⟨R1, hR1⟩ : ∃ R1, R1 = x + 4294967296 * R := ⟨_, rfl⟩
      rw [← hR1] at hown2 C1
      have hlt1 := HS.out.lt
      have hR1n : (natL R1).length ≤ 536870002 := by
        have h1 := natL_val_le hl2
        rw [hval2, ← hR1, hlen2] at h1
        omega
      have hq0 : R1 / val ys < 4294967296 := by rw [hR1]; exact fit_lt hx hlt1
      have HR1 := Hd hR1
      have H1 := Hd C1
      have HO2 := Hd hown2
      have HW2 := Hd hrow2
      have HL2 := Hd hlow2
      have hls := hlow2.size
      have hrs := hrow2.lt
      clear C1 hown2 hR1 hlt1 hval2 hl2 hlen2 hz2' hz3' hz4' he2 e2 ho1 hg1 hat1 ho2 hg2 hat2 hrow2 hlow2 r9 hxc hl0 hrl
      refine H1.out.mono ?_
      rintro e w3 ⟨rfl, rfl⟩
      have C2 := Hd (ref_cmp_any A2 B c2 d (natL R1) ys (canon_natL _) HC.out w2 HO2.out.raw_ (HY.out.below HL2.out))
      clear H1
      go_wp2_with fail
      refine C2.out.mono ?_
      rintro e w3 ⟨rfl, hb3⟩
      have HO3 := Hd (HO2.out.below hb3)
      have HW3 := Hd (HW2.out.below hb3)
      have HL3 := Hd (belowTo HL2.out hb3)
      have hls3 := hb3.size
      obtain ⟨z, hze⟩ : ∃ z, z = cmpv (val (natL R1)) (val ys) := ⟨_, rfl⟩
      rw [← hze]
      have hz2 : R1 < val ys ↔ z < 0 := by
        rw [hze, val_natL]
        unfold cmpv
        split <;> (try split) <;> omega
      clear hze hb3 C2 HL2 HO2 HW2
      by_cases hcmp : R1 < val ys
      · have hd : decide (z < 0) = true := by simp; omega
        have HD := Hd (show ∃ R zs, RDiv w w3 w.heap.size xs ys (.slice A2 (natL R1).length c2) j R zs from by
          refine ⟨_, zs, HS.out.skip hj HW3.out HL3.out (by rw [HXE.out, ← HR1.out]; exact HO3.out) (by rw [HXE.out, ← HR1.out]; exact hcmp)⟩)
        clear hz2 HO3 HW3 HL3 HS HX HY hcmp
        go_wp2_with fail
        go_roundw
        case rel => exact ⟨j, _, rfl, by omega, by omega, HD⟩
        case measure => simp [intOf]
      · have hd : decide (z < 0) = false := by simp; omega
        have C3 := ref_fitting A2 B c2 d (natL R1) ys (canon_natL _) (by omega) HP.out (by rw [val_natL]; exact hq0) w3 HO3.out.raw_ (HY.out.below HL3.out)
        rw [val_natL] at C3
        obtain ⟨q, hqe⟩ : ∃ q, q = R1 / val ys := ⟨_, rfl⟩
        rw [← hqe] at C3 hq0
        have HQ := Hd hqe
        have H3 := Hd C3
        clear hz2 C3 hqe hcmp
        go_wp2_with fail
        refine H3.out.mono ?_
        rintro e w4 ⟨rfl, hb4⟩
        have hj2 : j < zs.length := by rw [HS.out.len]; exact hj
        have HO4 := Hd ((HO3.out.below hb4).far (k := j) (Nat.lt_succ_self _) (.int .u32 (q : Int)))
        have row4 := HW3.out.below hb4
        have HW4 := Hd (row4.set j q)
        have low4 := belowTo HL3.out hb4
        have HL4 := Hd (low4.setCell (p := ⟨w.heap.size, j, none⟩) (Nat.le_refl _) (.int .u32 (q : Int)))
        have fz := row4.frozen j
        have hcell := row4.cell hj2
        generalize zs[j] = old at hcell
        have hls4 := hb4.size
        have C4 := Hd (ref_times B d q ys hq0 (by omega) (w4.setCell ⟨w.heap.size, j, none⟩ (.int .u32 (q : Int))) (HY.out.below HL4.out))
        clear H3 row4 low4 hb4 HO3 HW3 HL3
        go_wp2_with fail
        refine C4.out.mono ?_
        rintro e w5 ⟨v5, rfl, hv5, hb5⟩
        have HO5 := Hd (HO4.out.below hb5)
        have HW5 := Hd (HW4.out.below hb5)
        have HL5 := Hd (belowTo HL4.out hb5)
        have hls5 := hb5.size
        simp [World.setCell] at hls5
        obtain ⟨A5, c5, rfl, r5⟩ := hv5.raw
        have hle : val ys * q ≤ R1 := by rw [HQ.out]; exact Nat.mul_div_le _ _
        have C5 := ref_subN A2 A5 c2 c5 (natL R1) (natL (val ys * q)) (natL_mono hle) (by rw [val_natL, val_natL]; exact hle) (by omega) w5 HO5.out.raw_ r5
        rw [val_natL, val_natL] at C5
        have H5 := Hd C5
        clear C4 HO4 HW4 HL4 hv5 hb5 r5 C5 fz hcell
        go_wp2_with fail
        refine H5.out.mono ?_
        rintro e w6 ⟨v6, rfl, hv6, hb6⟩
        have HD := Hd (show ∃ R zs, RDiv w w6 w.heap.size xs ys v6 j R zs from by
          refine ⟨_, _, HS.out.take hj (q := q) (by rw [HXE.out, ← HR1.out]; exact HQ.out) hq0 (HW5.out.below hb6) (belowTo HL5.out hb6) (by rw [HXE.out, ← HR1.out]; exact hv6.base (by omega))⟩)
        clear H5 HO5 HW5 HL5 HS HX HY hv6 hb6 hle
        go_wp2_with fail
        go_roundw
        case rel => exact ⟨j, _, rfl, by omega, by omega, HD⟩
        case measure => simp [intOf]
/- Divide of the references. -/

theorem ref_divide (A B : Option Addr) (c d : Nat) (xs ys : List Nat) (hcy : Canon ys) (hyl : ys ≠ []) (hlx : xs.length ≤ 536870000) (hly : ys.length ≤ 536870000) (w : World) (h : Raw w A c xs) (g : Raw w B d ys) :
    Calls Tryz.prog 184 #[.slice A xs.length c, .slice B ys.length d] w (RetNN w.heap.size w (val xs / val ys) (val xs % val ys)) := by
  have h0 : ys.length ≠ 0 := fun e => hyl (List.eq_nil_of_length_eq_zero e)
  rcases (by omega : ys.length = 1 ∨ 2 ≤ ys.length) with h1 | h1
  · exact ref_divide_one A B c d xs ys hcy h1 (by omega) w h g
  · exact ref_divide_many A B c d xs ys hcy h1 hlx hly w h g

theorem ref_Divide_z (n1 n2 nn : Bool) (HN : Hid (nn = (n1 != n2))) (A B : Option Addr) (c d : Nat) (xs ys : List Nat) (hcy : Canon ys) (hne : ys ≠ []) (hlx : xs.length ≤ 536870000) (hly : ys.length ≤ 536870000) (z1 z2 : Int) (HZ1 : Hid (z1 = ival nn (natL (val xs / val ys)))) (HZ2 : Hid (z2 = ival n1 (natL (val xs % val ys)))) (w : World) (h : Raw w A c xs) (g : Raw w B d ys) :
    Calls Tryz.prog 119 #[.agg #[.bool n1, .slice A xs.length c], .agg #[.bool n2, .slice B ys.length d]] w (RetBoth w.heap.size w z1 z2) := by
  have px := (((Pair.new w 24 (.bool n1) (.slice A xs.length c)).alloc (.cells #[.bool n2, .slice B ys.length d] 24)).alloc (.cells #[.bool false, .slice none 0 0] 24)).alloc (.cells #[.bool false, .slice none 0 0] 24)
  have py := ((Pair.new (w.alloc (.cells #[.bool n1, .slice A xs.length c] 24)) 24 (.bool n2) (.slice B ys.length d)).alloc (.cells #[.bool false, .slice none 0 0] 24)).alloc (.cells #[.bool false, .slice none 0 0] 24)
  have pq := (Pair.new ((w.alloc (.cells #[.bool n1, .slice A xs.length c] 24)).alloc (.cells #[.bool n2, .slice B ys.length d] 24)) 24 (.bool false) (.slice none 0 0)).alloc (.cells #[.bool false, .slice none 0 0] 24)
  have pr := Pair.new (((w.alloc (.cells #[.bool n1, .slice A xs.length c] 24)).alloc (.cells #[.bool n2, .slice B ys.length d] 24)).alloc (.cells #[.bool false, .slice none 0 0] 24)) 24 (.bool false) (.slice none 0 0)
  have rx := ((((h.alloc (.cells #[.bool n1, .slice A xs.length c] 24)).alloc (.cells #[.bool n2, .slice B ys.length d] 24)).alloc (.cells #[.bool false, .slice none 0 0] 24)).alloc (.cells #[.bool false, .slice none 0 0] 24))
  have ry := ((((g.alloc (.cells #[.bool n1, .slice A xs.length c] 24)).alloc (.cells #[.bool n2, .slice B ys.length d] 24)).alloc (.cells #[.bool false, .slice none 0 0] 24)).alloc (.cells #[.bool false, .slice none 0 0] 24))
  have b0 := ((((Below.refl w.heap.size w).alloc (Nat.le_refl _) (.cells #[.bool n1, .slice A xs.length c] 24)).alloc (by simp) (.cells #[.bool n2, .slice B ys.length d] 24)).alloc (by simp; omega) (.cells #[.bool false, .slice none 0 0] 24)).alloc (by simp; omega) (.cells #[.bool false, .slice none 0 0] 24)
  simp only [World.size_alloc] at py pq pr
  clear h g
  go_enter Tryz.func119, Tryz.ntmps119
  go_wp2_with fail
  obtain ⟨W0, E⟩ : ∃ W, W = ((((w.alloc (.cells #[.bool n1, .slice A xs.length c] 24)).alloc (.cells #[.bool n2, .slice B ys.length d] 24)).alloc (.cells #[.bool false, .slice none 0 0] 24)).alloc (.cells #[.bool false, .slice none 0 0] 24)) := ⟨_, rfl⟩
  rw [← E] at px py pq pr b0 rx ry ⊢
  have hsz : W0.heap.size = w.heap.size + 4 := by rw [E]; simp
  clear E
  obtain ⟨l1, x0, x1, -, -⟩ := px.facts
  obtain ⟨l2, y0, y1, -, -⟩ := py.facts
  refine (ref_divide A B c d xs ys hcy hne hlx hly W0 rx ry).mono ?_
  rintro e W ⟨u1, u2, rfl, hu1, hu2, hb⟩
  have hsW := hb.size
  have HPX := Hd (fun (V : World) (hV : Below (w.heap.size + 2) W V) => (px.below hb).blk.below hV (Nat.lt_succ_of_lt (Nat.lt_succ_self _)))
  have HPY := Hd (fun (V : World) (hV : Below (w.heap.size + 2) W V) => (py.below hb).blk.below hV (Nat.lt_succ_self _))
  have PQ := Hd (pq.below hb)
  have PR := Hd (pr.below hb)
  have HB := Hd (belowTo b0 hb)
  have HU1 := Hd (hu1.base (b' := w.heap.size) (by omega))
  have HU2 := Hd (hu2.base (b' := w.heap.size) (by omega))
  have hsw : w.heap.size + 4 ≤ W.heap.size := by omega
  clear px py pq pr rx ry b0 l1 x0 x1 l2 y0 y1 hb hu1 hu2 hsz hsW
  go_wp2_with fail
  have C1 := Hd (fun (V : World) (hK : KeptV (w.heap.size + 2) [24] W V) => show Calls Tryz.prog 120 #[.bool nn, u1] V (RetInt w.heap.size V z1) from by
    have := ref_signed_own nn u1 (val xs / val ys) _ w.heap.size V ((HU1.out.kept hK (by decide)).ownL (Nat.le_refl _))
    rw [HZ1.out]; unfold ival; rw [val_natL]; exact this)
  have C2 := Hd (fun (V : World) (hK : KeptV (w.heap.size + 2) [24] W V) => show Calls Tryz.prog 120 #[.bool n1, u2] V (RetInt w.heap.size V z2) from by
    have := ref_signed_own n1 u2 (val xs % val ys) _ w.heap.size V ((HU2.out.kept hK (by decide)).ownL (Nat.le_refl _))
    rw [HZ2.out]; unfold ival; rw [val_natL]; exact this)
  clear HU1 HU2
  refine wp_region_free [.val (.pointer (some ⟨w.heap.size, 0, none⟩)) [], .val (.bool n1) [], .val (.pointer (some ⟨w.heap.size + 1, 0, none⟩)) [], .val (.bool n2) [], .val (.bool nn) [], .val u1 [], .any false (fun u V => IntOwn V w.heap.size u z1) [],
      .val (.pointer (some ⟨w.heap.size, 0, none⟩)) [], .val (.bool n1) [], .val u2 [], .any false (fun u V => IntOwn V w.heap.size u z2) [],
      .old (w.heap.size + 2) 24 #[.bool false, .slice none 0 0] 0 2 6 [], .old (w.heap.size + 3) 24 #[.bool false, .slice none 0 0] 0 2 10 []]
    (w.heap.size + 2) W [24] (fun _ _ => False) _ mixedOrders2 (by omega) (Below.refl _ _) (KeptV.refl _ _ _) rfl (by kernel_rfl) (by kernel_rfl) (by kernel_rfl) (by kernel_rfl) (by kernel_rfl) (by kernel_rfl) (by kernel_rfl) (by kernel_rfl) rfl (by simp [oldsF]) ?_ ?_ ?_ ?_
  · simp only [StableF, and_true]
    exact ⟨fun u V V' h k => h.kept k (by decide), fun u V V' h k => h.kept k (by decide)⟩
  · simp only [OldsF, and_true]
    exact ⟨⟨by omega, by omega, PQ.out.blk, by simp⟩, by omega, by omega, PR.out.blk, by simp⟩
  · simp [StepsF, DepF, freeAct, fill, pairs]
    repeat' (first | apply And.intro | (intro (u : Value)))
    all_goals try exact ⟨_, _, _, rfl, rfl, rfl, rfl, intInfo⟩
    all_goals first
    | (intro V hV hK
       have a0 := (HPX.out V hV).cell 0
       have b0 := (HPY.out V hV).cell 0
       simp at a0 b0
       clear hV
       go_simp
       first
       | exact Below.refl _ _
       | exact ⟨by rw [HN.out]; cases n1 <;> cases n2 <;> rfl, Below.refl _ _⟩
       | ((with_reducible refine (C1.out V hK).mono ?_); rintro e w' ⟨v, rfl, hv, hb⟩; exact ⟨hv, hb⟩)
       | ((with_reducible refine (C2.out V hK).mono ?_); rintro e w' ⟨v, rfl, hv, hb⟩; exact ⟨hv, hb⟩))
    | exact fun _ _ _ (h : IntOwn _ _ _ _) => h.cells
  · simp [EndF, FactsF, freeAct, fill, pairs]
    intro u v V hV hK h1 h2 bq br _ _ _
    obtain ⟨A1, c1, rfl, -⟩ := h1.form
    obtain ⟨A2, c2, rfl, -⟩ := h2.form
    simp [setAll, Value.cells] at bq br
    have k0 := bq.cell 0
    have k1 := bq.cell 1
    have k2 := br.cell 0
    have k3 := br.cell 1
    simp at k0 k1 k2 k3
    have H1 := Hd h1
    have H2 := Hd h2
    have HBV := Hd (HB.out.trans (hV.mono (by omega)))
    clear h1 h2 hV hK
    go_wp2_with fail
    exact bodyPost_ret (by simp [results, Tryz.results119, go_sem, k0, k1, k2, k3]) rfl ⟨_, _, rfl, H1.out, H2.out, HBV.out⟩
theorem ref_Divide (n1 n2 : Bool) (A B : Option Addr) (c d : Nat) (xs ys : List Nat) (hcy : Canon ys) (hne : ys ≠ []) (hlx : xs.length ≤ 536870000) (hly : ys.length ≤ 536870000) (w : World) (h : Raw w A c xs) (g : Raw w B d ys) :
    Calls Tryz.prog 119 #[.agg #[.bool n1, .slice A xs.length c], .agg #[.bool n2, .slice B ys.length d]] w (RetBoth w.heap.size w ((ival n1 xs).tdiv (ival n2 ys)) ((ival n1 xs).tmod (ival n2 ys))) :=
  ref_Divide_z n1 n2 _ (Hd rfl) A B c d xs ys hcy hne hlx hly _ _ (Hd (quo_val n1 n2 xs ys).1.symm) (Hd (quo_val n1 n2 xs ys).2.symm) w h g
/- Double of the references: times a power of two. -/

theorem ref_Double_z (n1 : Bool) (A : Option Addr) (c n : Nat) (xs : List Nat) (hne : xs ≠ []) (hn : n ≤ 1048576) (hlx : xs.length ≤ 1048576) (z : Int) (HZ : Hid (z = if n1 then -((val xs * 2 ^ n : Nat) : Int) else ((val xs * 2 ^ n : Nat) : Int))) (w : World) (h : Raw w A c xs) :
    Calls Tryz.prog 38 #[.agg #[.bool n1, .slice A xs.length c], .int .i64 n] w (RetInt w.heap.size w z) := by
  have px := (Pair.new w 24 (.bool n1) (.slice A xs.length c)).alloc (.cells #[.bool false, .slice none 0 0] 24)
  have pr := Pair.new (w.alloc (.cells #[.bool n1, .slice A xs.length c] 24)) 24 (.bool false) (.slice none 0 0)
  have rx := ((h.alloc (.cells #[.bool n1, .slice A xs.length c] 24)).alloc (.cells #[.bool false, .slice none 0 0] 24))
  have b0 := ((Below.refl w.heap.size w).alloc (Nat.le_refl _) (.cells #[.bool n1, .slice A xs.length c] 24)).alloc (by simp) (.cells #[.bool false, .slice none 0 0] 24)
  simp only [World.size_alloc] at pr
  have hlen : ((xs.length : Int) == 0) = false := by
    have : xs.length ≠ 0 := fun e => hne (List.eq_nil_of_length_eq_zero e)
    simp; omega
  have HL := Hd h.limbs
  have hn0 : (0 : Int) ≤ (n : Int) := by omega
  have hn1 : (n : Int) ≤ 1048576 := by omega
  obtain ⟨m, hm⟩ : ∃ m, m = n / 32 := ⟨_, rfl⟩
  obtain ⟨r, hr⟩ : ∃ r, r = n % 32 := ⟨_, rfl⟩
  have hmi : (n : Int) / 32 = (m : Int) := by omega
  have hri : (n : Int) % 32 = (r : Int) := by omega
  have hm2 : m ≤ 32768 := by omega
  have hr2 : r ≤ 31 := by omega
  have HNM := Hd (show n = 32 * m + r by omega)
  obtain ⟨i0, hi, hz0, hz1, hz2⟩ := info_parts limbInfo
  have hmk : ∀ W : World, (Instr.makeSlice 22 (.int .i64 (m : Int)) (.int .i64 (m : Int))).run Tryz.prog W = .ok (.slice (some ⟨W.heap.size, 0, none⟩) m m) (W.alloc (.cells (madeCells #[.int .u32 0] m) 70)) := fun W => by
    have h := run_make_rowN (P := Tryz.prog) 22 70 i0 _ Tryz.underlying22 hi hz0 .i64 .i64 m m (by omega) (by rw [hz2]; omega) (by omega) W
    rw [hz1, Nat.mul_one] at h
    exact h
  clear h hne hm hr
  go_enter Tryz.func38, Tryz.ntmps38
  have hown0 := (Row.made ((w.alloc (.cells #[.bool n1, .slice A xs.length c] 24)).alloc (.cells #[.bool false, .slice none 0 0] 24)) m).own (base := w.heap.size + 2) (by simp) (n := m) (by simp) (by simp; omega)
  rw [List.length_replicate, List.take_of_length_le (by simp)] at hown0
  simp only [World.size_alloc] at hown0
  have px2 := px.alloc (.cells (madeCells #[.int .u32 0] m) 70)
  have pr2 := pr.alloc (.cells (madeCells #[.int .u32 0] m) 70)
  have rx2 := rx.alloc (.cells (madeCells #[.int .u32 0] m) 70)
  have b2 := b0.alloc (by simp; omega) (.cells (madeCells #[.int .u32 0] m) 70)
  have HOW := Hd hown0
  have PX := Hd px2
  have PR := Hd pr2
  have RX := Hd rx2
  have B2 := Hd b2
  clear px pr rx b0 hown0 px2 pr2 rx2 b2
  go_wp2_with (at_builtin; refine wpList_append_any _ rfl (.tmp 16) (.tmp 18) _ rfl (w.heap.size + 2) 70 i0 _ 1 4 Tryz.underlying22 hi hz0 hz1 hz2 rfl (by omega) (.slice (some ⟨w.heap.size + 2, 0, none⟩) m m) m _ rfl HOW.out _ A xs.length c (cellsU xs) rfl RX.out.reads (cellsU_one _) (by unfold maxLen; omega) (by omega) (by simp) ?_; intro v1 w1 ho1 hg1 hat1)
  have e2 : cellsU (List.replicate m 0) ++ cellsU xs = cellsU (List.replicate m 0 ++ xs) := by simp [cellsU]
  rw [e2] at ho1
  have hlen1 : (List.replicate m 0 ++ xs).length = m + xs.length := by simp
  rw [← hlen1] at ho1
  have hl1 : Limbs (List.replicate m 0 ++ xs) := limbs_append.2 ⟨limbs_noughts _, HL.out⟩
  obtain ⟨A1, c1, rfl, f1, f2, f3⟩ := (OwnX.of_own hl1 ho1).form
  have hraw1 : OwnX w1 (w.heap.size + 2) (.slice A1 (List.replicate m 0 ++ xs).length c1) (List.replicate m 0 ++ xs) := ⟨hl1, A1, c1, rfl, f1, f2, f3⟩
  have hval1 : val (List.replicate m 0 ++ xs) * 2 ^ r = val xs * 2 ^ n := by
    rw [val_append, val_noughts, List.length_replicate, HNM.out, Nat.pow_add, Nat.pow_mul]
    rw [show (2 : Nat) ^ 32 = 4294967296 by decide]
    grind
  have px1 := PX.out.grown hg1 (by simp [Value.ownBlock])
  have pr1 := PR.out.grown hg1 (by simp [Value.ownBlock])
  have bl1 := B2.out.grown hg1 (by simp; omega) (fun k hk => by simp [Value.ownBlock] at hk; omega)
  have PX1 := Hd px1
  have PR1 := Hd pr1
  have RW1 := Hd hraw1
  have B1 := Hd bl1
  have HV1 := Hd hval1
  have hll : (List.replicate m 0 ++ xs).length ≤ 1200000 := by rw [hlen1]; omega
  have hs1 : w.heap.size + 2 ≤ w1.heap.size := by have := hg1.size; simp at this; omega
  generalize hLL : List.replicate m 0 ++ xs = LL at *
  clear ho1 hg1 hat1 e2 hl1 f1 f2 f3 hraw1 hval1 px1 pr1 bl1 HOW PX PR RX B2 hLL hlen1
  go_loop [6, 7] (fun v6 v7 => ∃ k f : Nat, v6 = .int .u32 f ∧ v7 = .int .i64 k ∧ k ≤ r ∧ f < 4294967296 ∧ Hid (f = 2 ^ k)) (fun _ v7 => r - (intOf v7).toNat)
  case atStart => exact ⟨0, 1, rfl, rfl, Nat.zero_le _, by omega, Hd rfl⟩
  case round =>
    obtain ⟨k, f, rfl, rfl, hk, hf, HF⟩ := hrel
    by_cases hkr : k < r
    · have h2f : 2 * f < 4294967296 := by
        have e : 2 * f = 2 ^ (k + 1) := by rw [HF.out, Nat.pow_succ, Nat.mul_comm]
        rw [e]
        exact Nat.lt_of_le_of_lt (Nat.pow_le_pow_right (by omega) (show k + 1 ≤ 31 by omega)) (by decide)
      have hki : (k : Int) < (r : Int) := by omega
      have h2i : (2 * (f : Int)) % 4294967296 = ((2 * f : Nat) : Int) := by omega
      have HF2 := Hd (show 2 * f = 2 ^ (k + 1) by rw [HF.out, Nat.pow_succ, Nat.mul_comm])
      clear HF
      go_wp2_with fail
      go_round
      case rel => exact ⟨k + 1, 2 * f, by first | rfl | go_num, by go_num, hkr, h2f, HF2⟩
      case measure => simp [intOf]; omega
    · obtain rfl : k = r := by omega
      have hge : (k : Int) ≤ (k : Int) := Int.le_refl _
      go_wp2_with fail
      have C1 := Hd (fun (V : World) (hK : KeptV (w.heap.size + 1) [24] w1 V) => show Calls Tryz.prog 126 #[.slice A1 LL.length c1, .int .u32 f] V (RetN V.heap.size V (val xs * 2 ^ n)) from by
        have := ref_times A1 c1 f LL hf (Nat.le_trans hll (by omega)) V (RW1.out.kept hK (by decide)).raw
        rw [HF.out, HV1.out] at this
        rw [← HF.out] at this
        exact this)
      have C2 := Hd (fun (V : World) (u : Value) (hu : OwnN V w.heap.size u (val xs * 2 ^ n)) => show Calls Tryz.prog 120 #[.bool n1, u] V (RetInt w.heap.size V z) from by
        have := ref_signed_own n1 u _ _ w.heap.size V (hu.ownL (Nat.le_refl _))
        rw [HZ.out]; exact this)
      have HPX := Hd (fun (V : World) (hV : Below (w.heap.size + 1) w1 V) => PX1.out.blk.below hV (Nat.lt_succ_self _))
      refine wp_region_free [.val (.pointer (some ⟨w.heap.size, 0, none⟩)) [], .val (.bool n1) [], .val (.slice A1 LL.length c1) [], .val (.int .u32 (f : Int)) [], .any false (fun u V => OwnN V w.heap.size u (val xs * 2 ^ n)) [], .any false (fun u V => IntOwn V w.heap.size u z) [4],
          .old (w.heap.size + 1) 24 #[.bool false, .slice none 0 0] 0 2 5 []]
        (w.heap.size + 1) w1 [24] (fun _ _ => False) _ mixedOrders2 (by omega) (Below.refl _ _) (KeptV.refl _ _ _) rfl (by kernel_rfl) (by kernel_rfl) (by kernel_rfl) (by kernel_rfl) (by kernel_rfl) (by kernel_rfl) (by kernel_rfl) (by kernel_rfl) rfl (by simp [oldsF]) ?_ ?_ ?_ ?_
      · simp only [StableF, and_true]
        exact ⟨fun u V V' h k => h.kept k (by decide), fun u V V' h k => h.kept k (by decide)⟩
      · simp only [OldsF, and_true]
        exact ⟨by omega, by omega, PR1.out.blk, by simp⟩
      · simp [StepsF, DepF, freeAct, fill, pairs]
        repeat' (first | apply And.intro | (intro (u : Value)))
        all_goals try exact ⟨_, _, _, rfl, rfl, rfl, rfl, intInfo⟩
        all_goals first
        | (intro V hV hK
           have a0 := (HPX.out V hV).cell 0
           simp at a0
           have hs2 := hK.size
           go_simp
           first
           | exact Below.refl _ _
           | ((with_reducible refine (C1.out V hK).mono ?_); rintro e w' ⟨v, rfl, hv, hb⟩; exact ⟨hv.base (by omega), hb⟩))
        | (intro V hV hK hu
           go_simp
           (with_reducible refine (C2.out V _ hu).mono ?_)
           rintro e w' ⟨v, rfl, hv, hb⟩
           exact ⟨hv, hb⟩)
        | exact fun _ _ _ (h : IntOwn _ _ _ _) => h.cells
      · simp [EndF, FactsF, freeAct, fill, pairs]
        intro u v V hV hK h1 h2 bq _ _ _
        obtain ⟨A2, c2, rfl, -⟩ := h2.form
        simp [setAll, Value.cells] at bq
        have k0 := bq.cell 0
        have k1 := bq.cell 1
        simp at k0 k1
        have H2 := Hd h2
        have HBV := Hd (B1.out.trans (hV.mono (by omega)))
        clear h1 h2 hV hK
        go_wp2_with fail
        exact bodyPost_ret (by simp [results, Tryz.results38, go_sem, k0, k1]) rfl ⟨_, rfl, H2.out, HBV.out⟩
/- Common of the references: the greatest number that goes into both, by halving. -/

structure Cm1 (w wr : World) (X Y : Nat) (A1 : Option Addr) (c1 a : Nat) (A2 : Option Addr) (c2 b t : Nat) : Prop where
  ra : Raw wr A1 c1 (natL a)
  rb : Raw wr A2 c2 (natL b)
  low : Below w.heap.size w wr
  pa : 0 < a
  pb : 0 < b
  gcd : Nat.gcd a b * 2 ^ t = Nat.gcd X Y
  la : a * 2 ^ t ≤ X
  lb : b ≤ Y
structure Cm2 (w wr : World) (g : Nat) (A1 : Option Addr) (c1 a : Nat) (A2 : Option Addr) (c2 b L : Nat) : Prop where
  ra : Raw wr A1 c1 (natL a)
  rb : Raw wr A2 c2 (natL b)
  low : Below w.heap.size w wr
  pb : 0 < b
  odd : a % 2 = 1 ∨ b % 2 = 1
  gcd : Nat.gcd a b = g
  la : (natL a).length ≤ L
  lb : (natL b).length ≤ L
end Go.Proofs.YtkncbenhfcpgkaaGreatDoor
