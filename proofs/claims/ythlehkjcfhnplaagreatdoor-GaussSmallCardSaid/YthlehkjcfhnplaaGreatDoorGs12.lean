/- Several texts in one: RefDivide, RefQuo, RefDouble, RefCommon. -/
import Derived.Test.YthlehkjcfhnplaaGreatDoorGs11
import Derived.Test.YthlehkjcfhnplaaGreatDoorGsHd
import Derived.Deep.LoopGhost
set_option maxRecDepth 100000
set_option maxHeartbeats 8000000
/- divide of the references: long division, limb by limb. -/
namespace Go.Proofs.YthlehkjcfhnplaaGreatDoor
open Go.RowKit

def RetNN (base : Nat) (w : World) (n1 n2 : Nat) (e : Ending) (w' : World) : Prop := ∃ v1 v2, e = .returned (.tuple #[v1, v2]) ∧ OwnN w' base v1 n1 ∧ OwnN w' base v2 n2 ∧ Below w.heap.size w w'

theorem below_append {w w' : World} {o : Obj} (h : (w.alloc o).grownBy w' none) : Below w.heap.size w w' :=
  ((Below.refl w.heap.size w).alloc (Nat.le_refl _) o).grown h (by simp) (fun _ hk => by cases hk)
theorem own_setFar {w : World} {base : Nat} {e : TypeId} {size n g k : Nat} {v : Value} {xs : List Value} (h : w.ownsRow base e size v n xs) (hg : g < base) (u : Value) : (w.setCell ⟨g, k, none⟩ u).ownsRow base e size v n xs := by
  refine ⟨h.1, ?_⟩
  rcases h.2 with h2 | ⟨b, cap, cur, h1, h2, h3, h4⟩
  · exact .inl h2
  · exact .inr ⟨b, cap, cur, h1, h2, (Blk.far (t := e) h3 (p := ⟨g, k, none⟩) (show b ≠ g by omega) u), h4⟩
theorem OwnN.far {w : World} {base n g k : Nat} {v : Value} (h : OwnN w base v n) (hg : g < base) (u : Value) : OwnN (w.setCell ⟨g, k, none⟩ u) base v n := by
  obtain ⟨A, c, h1, h2, h3, h4⟩ := h.form
  exact ⟨A, c, h1, h2, h3, own_setFar h4 hg u⟩

structure RDiv (w wr : World) (g : Nat) (xs ys : List Nat) (v : Value) (k R : Nat) (zs : List Nat) : Prop where
  len : zs.length = xs.length
  limbs : Limbs zs
  row : Row wr g zs
  low : Below w.heap.size w wr
  own : OwnN wr (g + 1) v R
  eq : val (zs.drop k) * val ys + R = val (xs.drop k)
  lt : R < val ys
  nought : ∀ j, j < k → at0 zs j = 0
theorem RDiv.skip {w wr wr' : World} {g : Nat} {xs ys : List Nat} {v v' : Value} {k R : Nat} {zs : List Nat} (h : RDiv w wr g xs ys v (k + 1) R zs) (hk : k < xs.length) (hrow : Row wr' g zs) (hlow : Below w.heap.size w wr') (hown : OwnN wr' (g + 1) v' (xs[k] + 4294967296 * R)) (hlt : xs[k] + 4294967296 * R < val ys) :
    RDiv w wr' g xs ys v' k (xs[k] + 4294967296 * R) zs := by
  have hk2 : k < zs.length := by rw [h.len]; exact hk
  have h0 : zs[k] = 0 := by rw [← at0_lt hk2]; exact h.nought k (Nat.lt_succ_self _)
  refine ⟨h.len, h.limbs, hrow, hlow, hown, ?_, hlt, fun j hj => h.nought j (by omega)⟩
  rw [val_drop_more hk2, val_drop_more hk, h0, ← h.eq, Nat.zero_add, Nat.mul_add, Nat.mul_assoc]
  omega
theorem RDiv.take {w wr wr' : World} {g : Nat} {xs ys : List Nat} {v v' : Value} {k R q : Nat} {zs : List Nat} (h : RDiv w wr g xs ys v (k + 1) R zs) (hk : k < xs.length) (hq : q = (xs[k] + 4294967296 * R) / val ys) (hq2 : q < 4294967296) (hrow : Row wr' g (zs.set k q)) (hlow : Below w.heap.size w wr') (hown : OwnN wr' (g + 1) v' (xs[k] + 4294967296 * R - val ys * q)) :
    RDiv w wr' g xs ys v' k (xs[k] + 4294967296 * R - val ys * q) (zs.set k q) := by
  have hk2 : k < zs.length := by rw [h.len]; exact hk
  have hY : 0 < val ys := by have := h.lt; omega
  have hd := Nat.div_add_mod (xs[k] + 4294967296 * R) (val ys)
  have hm := Nat.mod_lt (xs[k] + 4294967296 * R) hY
  rw [← hq] at hd
  refine ⟨by rw [List.length_set]; exact h.len, limbs_set h.limbs hq2, hrow, hlow, hown, ?_, by omega, fun j hj => ?_⟩
  · rw [val_drop_set hk2, val_drop_more hk, ← h.eq, Nat.add_mul, Nat.mul_assoc 4294967296, Nat.mul_add, Nat.mul_comm q]
    omega
  · rw [at0_set_ne (by omega)]; exact h.nought j (by omega)
theorem RDiv.stop {w wr : World} {g : Nat} {xs ys : List Nat} {v : Value} {R : Nat} {zs : List Nat} (h : RDiv w wr g xs ys v 0 R zs) : val zs = val xs / val ys ∧ R = val xs % val ys := by
  have e := h.eq
  have hl := h.lt
  simp only [List.drop_zero] at e
  have hY : 0 < val ys := by omega
  rw [← e]
  constructor
  · rw [Nat.add_comm, Nat.add_mul_div_right _ _ hY, Nat.div_eq_of_lt hl, Nat.zero_add]
  · rw [Nat.mul_add_mod_self_right, Nat.mod_eq_of_lt hl]

theorem fit_lt {x R Y : Nat} (hx : x < 4294967296) (hR : R < Y) : (x + 4294967296 * R) / Y < 4294967296 := by
  rw [Nat.div_lt_iff_lt_mul (by omega)]
  have := Nat.mul_le_mul_left 4294967296 (show R + 1 ≤ Y from hR)
  omega

theorem ref_divide_one (A B : Option Addr) (c d : Nat) (xs ys : List Nat) (hcy : Canon ys) (hyl : ys.length = 1) (hl : xs.length ≤ 1073741824) (w : World) (h : Raw w A c xs) (g : Raw w B d ys) :
    Calls Tryz.prog 282 #[.slice A xs.length c, .slice B ys.length d] w (RetNN w.heap.size w (val xs / val ys) (val xs % val ys)) := by
  have h0 : ys[0] ≠ 0 := hcy _ (getLast_get hyl)
  have hyv : val ys = ys[0] := by
    match ys, hyl with
    | [y], _ => simp [val]
  obtain ⟨ad, rfl, hbl, hy⟩ := g.reads.get (k := 0) (by omega)
  have hby := limbs_get g.limbs (k := 0) (by omega)
  rw [hyv]
  generalize ys[0] = y at h0 hy hby
  simp [Addr.add] at hy
  have C1 := Hd (ref_short A c y xs (by omega) hby hl w h)
  have hrl : val xs % y < 4294967296 := Nat.lt_trans (Nat.mod_lt _ (by omega)) hby
  generalize val xs % y = r at hrl C1
  rw [hyl]
  clear h g hyv hyl hcy h0
  go_enter Tryz.func282, Tryz.ntmps282
  go_wp2_with fail
  refine C1.out.mono ?_
  rintro e w1 ⟨v, rfl, hv, hb⟩
  have hr : Row (w1.alloc (.cells #[.int .u32 r] 114)) w1.heap.size [r] := ⟨Blk.new w1 _ _⟩
  have hl2 : Limbs [r] := by intro x hx; simp at hx; omega
  have hv2 : val [r] = r := by simp [val]
  have C2 := Hd (ref_trim (some ⟨w1.heap.size, 0, none⟩) 1 [r] hl2 (by simp) (by omega) _ (w1.alloc (.cells #[.int .u32 r] 114)) hr.reads)
  have HO := Hd (OwnN.of_ownL (by have := hr.ownL_cut (base := w.heap.size) hb.size (by simp) hl2; rwa [hv2] at this))
  rw [hv2] at C2
  have HV := Hd (hv.below ((Below.refl w1.heap.size w1).alloc (Nat.le_refl _) (.cells #[.int .u32 r] 114)))
  have HB := Hd (hb.alloc hb.size (.cells #[.int .u32 r] 114))
  clear hr hl2 hv2 hv hb C1 hy hbl
  go_wp2_with fail
  refine C2.out.mono ?_
  rintro e w2 ⟨rfl, rfl⟩
  go_wp2_with fail
  go_ret2
  exact ⟨_, _, rfl, HV.out, HO.out, HB.out⟩

theorem ref_divide_many (A B : Option Addr) (c d : Nat) (xs ys : List Nat) (hcy : Canon ys) (hyl : 2 ≤ ys.length) (hlx : xs.length ≤ 536870000) (hly : ys.length ≤ 536870000) (w : World) (h : Raw w A c xs) (g : Raw w B d ys) :
    Calls Tryz.prog 282 #[.slice A xs.length c, .slice B ys.length d] w (RetNN w.heap.size w (val xs / val ys) (val xs % val ys)) := by
  have HX := Hd h
  have HY := Hd g
  have HC := Hd hcy
  have hc := h.cap
  have hm := h.most
  have hY : 0 < val ys := by
    rcases Nat.eq_zero_or_pos (val ys) with h0 | h0
    · have e := natL_val g.limbs hcy
      rw [h0] at e
      rw [← e] at hyl
      simp [natL_zero] at hyl
    · exact h0
  have hlen1 : ((ys.length : Int) == 1) = false := by simp; omega
  obtain ⟨i0, hi, hz0, hz1, hz2⟩ := info_parts limbInfo
  have hmk : ∀ W : World, (Instr.makeSlice 22 (.int .i64 (xs.length : Int)) (.int .i64 (xs.length : Int))).run Tryz.prog W = .ok (.slice (some ⟨W.heap.size, 0, none⟩) xs.length xs.length) (W.alloc (.cells (madeCells #[.int .u32 0] xs.length) 114)) := fun W => by
    have h := run_make_rowN (P := Tryz.prog) 22 114 i0 _ Tryz.underlying22 hi hz0 .i64 .i64 xs.length xs.length (by omega) (by rw [hz2]; omega) (by omega) W
    rw [hz1, Nat.mul_one] at h
    exact h
  have H0 := Hd (⟨0, _, by simp, limbs_noughts _, Row.made w _, (Below.refl _ _).alloc (Nat.le_refl _) _, OwnN.nil, by rw [List.drop_of_length_le (by simp), List.drop_length]; simp [val], hY, fun j _ => at0_noughts _ _⟩ : ∃ R zs, RDiv w (w.alloc (.cells (madeCells #[.int .u32 0] xs.length) 114)) w.heap.size xs ys (.slice none 0 0) xs.length R zs)
  have HP := Hd hY
  clear h g hcy hY
  go_enter Tryz.func282, Tryz.ntmps282
  go_wp2_with fail
  clear hmk
  go_loopw [9, 10, 11, 12] (fun v9 v10 v11 v12 wr => ∃ k : Nat, ∃ i : Int, v10 = .int .i64 i ∧ i = (k : Int) - 1 ∧ k ≤ xs.length ∧ Hid (∃ R zs, RDiv w wr w.heap.size xs ys v9 k R zs)) (fun _ v10 _ _ _ => (intOf v10 + 1).toNat)
  case atStart => exact ⟨xs.length, _, rfl, by omega, Nat.le_refl _, H0⟩
  case round =>
    obtain ⟨k, i, rfl, hik, hk, HR⟩ := hrel
    clear H0
    obtain ⟨R, zs, hs⟩ := HR.out
    have HS := Hd hs
    clear HR hs
    cases k with
    | zero =>
      obtain rfl : i = -1 := by omega
      clear hik
      have htrim := fun V (e : V = wr) => ref_trim (some ⟨w.heap.size, 0, none⟩) zs.length zs HS.out.limbs (Nat.le_refl _) (by rw [HS.out.len]; omega) V.heap.size V (e ▸ HS.out.row.reads)
      have hown := OwnN.of_ownL (HS.out.row.ownL_cut (base := w.heap.size) (Nat.le_refl _) (by rw [HS.out.len]; omega) HS.out.limbs)
      rw [HS.out.len] at htrim hown
      have C := Hd (htrim wr rfl)
      have HO := Hd hown
      have HV := Hd HS.out.stop
      have HO2 := Hd (HS.out.own.base (b' := w.heap.size) (by omega))
      have HB := Hd HS.out.low
      clear hown htrim HS HX HY
      go_wp2_with (first | (go_at_call 284; with_reducible refine C.out.mono ?_; rintro e w' ⟨rfl, rfl⟩))
      go_ret2
      exact ⟨_, _, rfl, by rw [← HV.out.1]; exact HO.out, by rw [← HV.out.2]; exact HO2.out, HB.out⟩
    | succ j =>
      obtain rfl : i = (j : Int) := by omega
      clear hik
      have a0 : (0 : Int) ≤ (j : Int) := by omega
      have a1 : (j : Int) < (xs.length : Int) := by omega
      have hj : j < xs.length := by omega
      obtain ⟨ad, rfl, hbl, hxc⟩ := (HX.out.below HS.out.low).reads.get hj
      have hx := limbs_get HX.out.limbs hj
      obtain ⟨x, hxe⟩ : ∃ x, xs[j] = x := ⟨_, rfl⟩
      rw [hxe] at hxc hx
      have HXE := Hd hxe
      have hlim := HX.out.below HS.out.low
      obtain ⟨A9, c9, rfl, r9⟩ := HS.out.own.raw
      have hR9 : (natL R).length ≤ ys.length := natL_length_le.2 (Nat.lt_trans HS.out.lt (val_lt HY.out.limbs))
      have hl0 := HS.out.low.size
      have hrl := HS.out.row.lt
      clear hxe hlim hbl
      go_wp2_with (first
        | (at_builtin; refine wpList_append_any _ rfl (.tmp 38) (.tmp 43) _ rfl (w.heap.size + 1) 114 i0 _ 1 4 Tryz.underlying22 hi hz0 hz1 hz2 rfl (by omega) _ 0 [] rfl (World.ownsRow_nil _ _ _ _) _ (some ⟨wr.heap.size, 0, none⟩) 1 1 [.int .u32 (x : Int)] rfl (Reads.new1 wr _ 1 _ rfl) (by simp [Value.oneCell']) (by unfold maxLen; omega) (by omega) (by simp; omega) ?_; intro v1 w1 ho1 hg1 hat1)
        | (at_builtin; refine wpList_append_any _ rfl (.tmp 45) (.tmp 46) _ rfl (w.heap.size + 1) 114 i0 _ 1 4 Tryz.underlying22 hi hz0 hz1 hz2 rfl (by omega) _ (0 + 1) _ rfl ho1 _ A9 (natL R).length c9 (cellsU (natL R)) rfl (r9.reads.below (below_append hg1)) (cellsU_one _) (by unfold maxLen; omega) (by omega) (by have := hg1.size; simp at this; omega) ?_; intro v2 w2 ho2 hg2 hat2))
      have hrow2 : Row w2 w.heap.size zs := by
        have h1 : Row w1 w.heap.size zs := HS.out.row.below (below_append hg1)
        refine ⟨h1.blk.stays hg2 (fun e => ?_)⟩
        have := (ho1.lt w.heap.size e.symm).1
        omega
      have hlow2 : Below w.heap.size w w2 := by
        refine (belowTo HS.out.low (below_append hg1)).grown hg2 (by have := hg1.size; simp at this; omega) (fun k hk => ?_)
        have := (ho1.lt k hk).1
        omega
      have e2 : [] ++ [Value.int .u32 (x : Int)] ++ cellsU (natL R) = cellsU (x :: natL R) := by simp [cellsU]
      rw [e2] at ho2
      have hl2 : Limbs (x :: natL R) := limbs_cons.2 ⟨hx, limbs_natL _⟩
      have hlen2 : (x :: natL R).length = 0 + 1 + (natL R).length := by simp; omega
      rw [← hlen2] at ho2
      have hval2 : val (x :: natL R) = x + 4294967296 * R := by simp only [val, val_natL]
      obtain ⟨A2, c2, he2, hz2', hz3', hz4'⟩ := (OwnX.of_own hl2 ho2).form
      have C1 := ref_trim A2 c2 (x :: natL R) hl2 hz2' hz3' w2.heap.size w2 (Reads.of_own hz4')
      have hown2 := OwnN.of_ownL (OwnL.cut hl2 hz2' hz3' hz4' (Nat.le_refl _))
      rw [hval2] at hown2 C1
      rw [← he2] at C1
      obtain ⟨R1, hR1⟩ : ∃ R1, R1 = x + 4294967296 * R := ⟨_, rfl⟩
      rw [← hR1] at hown2 C1
      have hlt1 := HS.out.lt
      have hR1n : (natL R1).length ≤ 536870002 := by
        have h1 := natL_val_le hl2
        rw [hval2, ← hR1, hlen2] at h1
        omega
      have hq0 : R1 / val ys < 4294967296 := by rw [hR1]; exact fit_lt hx hlt1
      have HR1 := Hd hR1
      have H1 := Hd C1
      have HO2 := Hd hown2
      have HW2 := Hd hrow2
      have HL2 := Hd hlow2
      have hls := hlow2.size
      have hrs := hrow2.lt
      clear C1 hown2 hR1 hlt1 hval2 hl2 hlen2 hz2' hz3' hz4' he2 e2 ho1 hg1 hat1 ho2 hg2 hat2 hrow2 hlow2 r9 hxc hl0 hrl
      refine H1.out.mono ?_
      rintro e w3 ⟨rfl, rfl⟩
      have C2 := Hd (ref_cmp_any A2 B c2 d (natL R1) ys (canon_natL _) HC.out w2 HO2.out.raw_ (HY.out.below HL2.out))
      clear H1
      go_wp2_with fail
      refine C2.out.mono ?_
      rintro e w3 ⟨rfl, hb3⟩
      have HO3 := Hd (HO2.out.below hb3)
      have HW3 := Hd (HW2.out.below hb3)
      have HL3 := Hd (belowTo HL2.out hb3)
      have hls3 := hb3.size
      obtain ⟨z, hze⟩ : ∃ z, z = cmpv (val (natL R1)) (val ys) := ⟨_, rfl⟩
      rw [← hze]
      have hz2 : R1 < val ys ↔ z < 0 := by
        rw [hze, val_natL]
        unfold cmpv
        split <;> (try split) <;> omega
      clear hze hb3 C2 HL2 HO2 HW2
      by_cases hcmp : R1 < val ys
      · have hd : decide (z < 0) = true := by simp; omega
        have HD := Hd (show ∃ R zs, RDiv w w3 w.heap.size xs ys (.slice A2 (natL R1).length c2) j R zs from by
          refine ⟨_, zs, HS.out.skip hj HW3.out HL3.out (by rw [HXE.out, ← HR1.out]; exact HO3.out) (by rw [HXE.out, ← HR1.out]; exact hcmp)⟩)
        clear hz2 HO3 HW3 HL3 HS HX HY hcmp
        go_wp2_with fail
        go_roundw
        case rel => exact ⟨j, _, rfl, by omega, by omega, HD⟩
        case measure => simp [intOf]
      · have hd : decide (z < 0) = false := by simp; omega
        have C3 := ref_fitting A2 B c2 d (natL R1) ys (canon_natL _) (by omega) HP.out (by rw [val_natL]; exact hq0) w3 HO3.out.raw_ (HY.out.below HL3.out)
        rw [val_natL] at C3
        obtain ⟨q, hqe⟩ : ∃ q, q = R1 / val ys := ⟨_, rfl⟩
        rw [← hqe] at C3 hq0
        have HQ := Hd hqe
        have H3 := Hd C3
        clear hz2 C3 hqe hcmp
        go_wp2_with fail
        refine H3.out.mono ?_
        rintro e w4 ⟨rfl, hb4⟩
        have hj2 : j < zs.length := by rw [HS.out.len]; exact hj
        have HO4 := Hd ((HO3.out.below hb4).far (k := j) (Nat.lt_succ_self _) (.int .u32 (q : Int)))
        have row4 := HW3.out.below hb4
        have HW4 := Hd (row4.set j q)
        have low4 := belowTo HL3.out hb4
        have HL4 := Hd (low4.setCell (p := ⟨w.heap.size, j, none⟩) (Nat.le_refl _) (.int .u32 (q : Int)))
        have fz := row4.frozen j
        have hcell := row4.cell hj2
        generalize zs[j] = old at hcell
        have hls4 := hb4.size
        have C4 := Hd (ref_times B d q ys hq0 (by omega) (w4.setCell ⟨w.heap.size, j, none⟩ (.int .u32 (q : Int))) (HY.out.below HL4.out))
        clear H3 row4 low4 hb4 HO3 HW3 HL3
        go_wp2_with fail
        refine C4.out.mono ?_
        rintro e w5 ⟨v5, rfl, hv5, hb5⟩
        have HO5 := Hd (HO4.out.below hb5)
        have HW5 := Hd (HW4.out.below hb5)
        have HL5 := Hd (belowTo HL4.out hb5)
        have hls5 := hb5.size
        simp [World.setCell] at hls5
        obtain ⟨A5, c5, rfl, r5⟩ := hv5.raw
        have hle : val ys * q ≤ R1 := by rw [HQ.out]; exact Nat.mul_div_le _ _
        have C5 := ref_subN A2 A5 c2 c5 (natL R1) (natL (val ys * q)) (natL_mono hle) (by rw [val_natL, val_natL]; exact hle) (by omega) w5 HO5.out.raw_ r5
        rw [val_natL, val_natL] at C5
        have H5 := Hd C5
        clear C4 HO4 HW4 HL4 hv5 hb5 r5 C5 fz hcell
        go_wp2_with fail
        refine H5.out.mono ?_
        rintro e w6 ⟨v6, rfl, hv6, hb6⟩
        have HD := Hd (show ∃ R zs, RDiv w w6 w.heap.size xs ys v6 j R zs from by
          refine ⟨_, _, HS.out.take hj (q := q) (by rw [HXE.out, ← HR1.out]; exact HQ.out) hq0 (HW5.out.below hb6) (belowTo HL5.out hb6) (by rw [HXE.out, ← HR1.out]; exact hv6.base (by omega))⟩)
        clear H5 HO5 HW5 HL5 HS HX HY hv6 hb6 hle
        go_wp2_with fail
        go_roundw
        case rel => exact ⟨j, _, rfl, by omega, by omega, HD⟩
        case measure => simp [intOf]
/- Divide of the references. -/

theorem ref_divide (A B : Option Addr) (c d : Nat) (xs ys : List Nat) (hcy : Canon ys) (hyl : ys ≠ []) (hlx : xs.length ≤ 536870000) (hly : ys.length ≤ 536870000) (w : World) (h : Raw w A c xs) (g : Raw w B d ys) :
    Calls Tryz.prog 282 #[.slice A xs.length c, .slice B ys.length d] w (RetNN w.heap.size w (val xs / val ys) (val xs % val ys)) := by
  have h0 : ys.length ≠ 0 := fun e => hyl (List.eq_nil_of_length_eq_zero e)
  rcases (by omega : ys.length = 1 ∨ 2 ≤ ys.length) with h1 | h1
  · exact ref_divide_one A B c d xs ys hcy h1 (by omega) w h g
  · exact ref_divide_many A B c d xs ys hcy h1 hlx hly w h g

theorem ref_Divide_z (n1 n2 nn : Bool) (HN : Hid (nn = (n1 != n2))) (A B : Option Addr) (c d : Nat) (xs ys : List Nat) (hcy : Canon ys) (hne : ys ≠ []) (hlx : xs.length ≤ 536870000) (hly : ys.length ≤ 536870000) (z1 z2 : Int) (HZ1 : Hid (z1 = ival nn (natL (val xs / val ys)))) (HZ2 : Hid (z2 = ival n1 (natL (val xs % val ys)))) (w : World) (h : Raw w A c xs) (g : Raw w B d ys) :
    Calls Tryz.prog 238 #[.agg #[.bool n1, .slice A xs.length c], .agg #[.bool n2, .slice B ys.length d]] w (RetBoth w.heap.size w z1 z2) := by
  have px := (((Pair.new w 24 (.bool n1) (.slice A xs.length c)).alloc (.cells #[.bool n2, .slice B ys.length d] 24)).alloc (.cells #[.bool false, .slice none 0 0] 24)).alloc (.cells #[.bool false, .slice none 0 0] 24)
  have py := ((Pair.new (w.alloc (.cells #[.bool n1, .slice A xs.length c] 24)) 24 (.bool n2) (.slice B ys.length d)).alloc (.cells #[.bool false, .slice none 0 0] 24)).alloc (.cells #[.bool false, .slice none 0 0] 24)
  have pq := (Pair.new ((w.alloc (.cells #[.bool n1, .slice A xs.length c] 24)).alloc (.cells #[.bool n2, .slice B ys.length d] 24)) 24 (.bool false) (.slice none 0 0)).alloc (.cells #[.bool false, .slice none 0 0] 24)
  have pr := Pair.new (((w.alloc (.cells #[.bool n1, .slice A xs.length c] 24)).alloc (.cells #[.bool n2, .slice B ys.length d] 24)).alloc (.cells #[.bool false, .slice none 0 0] 24)) 24 (.bool false) (.slice none 0 0)
  have rx := ((((h.alloc (.cells #[.bool n1, .slice A xs.length c] 24)).alloc (.cells #[.bool n2, .slice B ys.length d] 24)).alloc (.cells #[.bool false, .slice none 0 0] 24)).alloc (.cells #[.bool false, .slice none 0 0] 24))
  have ry := ((((g.alloc (.cells #[.bool n1, .slice A xs.length c] 24)).alloc (.cells #[.bool n2, .slice B ys.length d] 24)).alloc (.cells #[.bool false, .slice none 0 0] 24)).alloc (.cells #[.bool false, .slice none 0 0] 24))
  have b0 := ((((Below.refl w.heap.size w).alloc (Nat.le_refl _) (.cells #[.bool n1, .slice A xs.length c] 24)).alloc (by simp) (.cells #[.bool n2, .slice B ys.length d] 24)).alloc (by simp; omega) (.cells #[.bool false, .slice none 0 0] 24)).alloc (by simp; omega) (.cells #[.bool false, .slice none 0 0] 24)
  simp only [World.size_alloc] at py pq pr
  clear h g
  go_enter Tryz.func238, Tryz.ntmps238
  go_wp2_with fail
  obtain ⟨W0, E⟩ : ∃ W, W = ((((w.alloc (.cells #[.bool n1, .slice A xs.length c] 24)).alloc (.cells #[.bool n2, .slice B ys.length d] 24)).alloc (.cells #[.bool false, .slice none 0 0] 24)).alloc (.cells #[.bool false, .slice none 0 0] 24)) := ⟨_, rfl⟩
  rw [← E] at px py pq pr b0 rx ry ⊢
  have hsz : W0.heap.size = w.heap.size + 4 := by rw [E]; simp
  clear E
  obtain ⟨l1, x0, x1, -, -⟩ := px.facts
  obtain ⟨l2, y0, y1, -, -⟩ := py.facts
  refine (ref_divide A B c d xs ys hcy hne hlx hly W0 rx ry).mono ?_
  rintro e W ⟨u1, u2, rfl, hu1, hu2, hb⟩
  have hsW := hb.size
  have HPX := Hd (fun (V : World) (hV : Below (w.heap.size + 2) W V) => (px.below hb).blk.below hV (Nat.lt_succ_of_lt (Nat.lt_succ_self _)))
  have HPY := Hd (fun (V : World) (hV : Below (w.heap.size + 2) W V) => (py.below hb).blk.below hV (Nat.lt_succ_self _))
  have PQ := Hd (pq.below hb)
  have PR := Hd (pr.below hb)
  have HB := Hd (belowTo b0 hb)
  have HU1 := Hd (hu1.base (b' := w.heap.size) (by omega))
  have HU2 := Hd (hu2.base (b' := w.heap.size) (by omega))
  have hsw : w.heap.size + 4 ≤ W.heap.size := by omega
  clear px py pq pr rx ry b0 l1 x0 x1 l2 y0 y1 hb hu1 hu2 hsz hsW
  go_wp2_with fail
  have C1 := Hd (fun (V : World) (hK : KeptV (w.heap.size + 2) [24] W V) => show Calls Tryz.prog 241 #[.bool nn, u1] V (RetInt w.heap.size V z1) from by
    have := ref_signed_own nn u1 (val xs / val ys) _ w.heap.size V ((HU1.out.kept hK (by decide)).ownL (Nat.le_refl _))
    rw [HZ1.out]; unfold ival; rw [val_natL]; exact this)
  have C2 := Hd (fun (V : World) (hK : KeptV (w.heap.size + 2) [24] W V) => show Calls Tryz.prog 241 #[.bool n1, u2] V (RetInt w.heap.size V z2) from by
    have := ref_signed_own n1 u2 (val xs % val ys) _ w.heap.size V ((HU2.out.kept hK (by decide)).ownL (Nat.le_refl _))
    rw [HZ2.out]; unfold ival; rw [val_natL]; exact this)
  clear HU1 HU2
  refine wp_region_free [.val (.pointer (some ⟨w.heap.size, 0, none⟩)) [], .val (.bool n1) [], .val (.pointer (some ⟨w.heap.size + 1, 0, none⟩)) [], .val (.bool n2) [], .val (.bool nn) [], .val u1 [], .any false (fun u V => IntOwn V w.heap.size u z1) [],
      .val (.pointer (some ⟨w.heap.size, 0, none⟩)) [], .val (.bool n1) [], .val u2 [], .any false (fun u V => IntOwn V w.heap.size u z2) [],
      .old (w.heap.size + 2) 24 #[.bool false, .slice none 0 0] 0 2 6 [], .old (w.heap.size + 3) 24 #[.bool false, .slice none 0 0] 0 2 10 []]
    (w.heap.size + 2) W [24] (fun _ _ => False) _ mixedOrders2 (by omega) (Below.refl _ _) (KeptV.refl _ _ _) rfl (by kernel_rfl) (by kernel_rfl) (by kernel_rfl) (by kernel_rfl) (by kernel_rfl) (by kernel_rfl) (by kernel_rfl) (by kernel_rfl) rfl (by simp [oldsF]) ?_ ?_ ?_ ?_
  · simp only [StableF, and_true]
    exact ⟨fun u V V' h k => h.kept k (by decide), fun u V V' h k => h.kept k (by decide)⟩
  · simp only [OldsF, and_true]
    exact ⟨⟨by omega, by omega, PQ.out.blk, by simp⟩, by omega, by omega, PR.out.blk, by simp⟩
  · simp [StepsF, DepF, freeAct, fill, pairs]
    repeat' (first | apply And.intro | (intro (u : Value)))
    all_goals try exact ⟨_, _, _, rfl, rfl, rfl, rfl, intInfo⟩
    all_goals first
    | (intro V hV hK
       have a0 := (HPX.out V hV).cell 0
       have b0 := (HPY.out V hV).cell 0
       simp at a0 b0
       clear hV
       go_simp
       first
       | exact Below.refl _ _
       | exact ⟨by rw [HN.out]; cases n1 <;> cases n2 <;> rfl, Below.refl _ _⟩
       | ((with_reducible refine (C1.out V hK).mono ?_); rintro e w' ⟨v, rfl, hv, hb⟩; exact ⟨hv, hb⟩)
       | ((with_reducible refine (C2.out V hK).mono ?_); rintro e w' ⟨v, rfl, hv, hb⟩; exact ⟨hv, hb⟩))
    | exact fun _ _ _ (h : IntOwn _ _ _ _) => h.cells
  · simp [EndF, FactsF, freeAct, fill, pairs]
    intro u v V hV hK h1 h2 bq br _ _ _
    obtain ⟨A1, c1, rfl, -⟩ := h1.form
    obtain ⟨A2, c2, rfl, -⟩ := h2.form
    simp [setAll, Value.cells] at bq br
    have k0 := bq.cell 0
    have k1 := bq.cell 1
    have k2 := br.cell 0
    have k3 := br.cell 1
    simp at k0 k1 k2 k3
    have H1 := Hd h1
    have H2 := Hd h2
    have HBV := Hd (HB.out.trans (hV.mono (by omega)))
    clear h1 h2 hV hK
    go_wp2_with fail
    exact bodyPost_ret (by simp [results, Tryz.results238, go_sem, k0, k1, k2, k3]) rfl ⟨_, _, rfl, H1.out, H2.out, HBV.out⟩
theorem ref_Divide (n1 n2 : Bool) (A B : Option Addr) (c d : Nat) (xs ys : List Nat) (hcy : Canon ys) (hne : ys ≠ []) (hlx : xs.length ≤ 536870000) (hly : ys.length ≤ 536870000) (w : World) (h : Raw w A c xs) (g : Raw w B d ys) :
    Calls Tryz.prog 238 #[.agg #[.bool n1, .slice A xs.length c], .agg #[.bool n2, .slice B ys.length d]] w (RetBoth w.heap.size w ((ival n1 xs).tdiv (ival n2 ys)) ((ival n1 xs).tmod (ival n2 ys))) :=
  ref_Divide_z n1 n2 _ (Hd rfl) A B c d xs ys hcy hne hlx hly _ _ (Hd (quo_val n1 n2 xs ys).1.symm) (Hd (quo_val n1 n2 xs ys).2.symm) w h g
/- Double of the references: times a power of two. -/

theorem ref_Double_z (n1 : Bool) (A : Option Addr) (c n : Nat) (xs : List Nat) (hne : xs ≠ []) (hn : n ≤ 1048576) (hlx : xs.length ≤ 1048576) (z : Int) (HZ : Hid (z = if n1 then -((val xs * 2 ^ n : Nat) : Int) else ((val xs * 2 ^ n : Nat) : Int))) (w : World) (h : Raw w A c xs) :
    Calls Tryz.prog 313 #[.agg #[.bool n1, .slice A xs.length c], .int .i64 n] w (RetInt w.heap.size w z) := by
  have px := (Pair.new w 24 (.bool n1) (.slice A xs.length c)).alloc (.cells #[.bool false, .slice none 0 0] 24)
  have pr := Pair.new (w.alloc (.cells #[.bool n1, .slice A xs.length c] 24)) 24 (.bool false) (.slice none 0 0)
  have rx := ((h.alloc (.cells #[.bool n1, .slice A xs.length c] 24)).alloc (.cells #[.bool false, .slice none 0 0] 24))
  have b0 := ((Below.refl w.heap.size w).alloc (Nat.le_refl _) (.cells #[.bool n1, .slice A xs.length c] 24)).alloc (by simp) (.cells #[.bool false, .slice none 0 0] 24)
  simp only [World.size_alloc] at pr
  have hlen : ((xs.length : Int) == 0) = false := by
    have : xs.length ≠ 0 := fun e => hne (List.eq_nil_of_length_eq_zero e)
    simp; omega
  have HL := Hd h.limbs
  have hn0 : (0 : Int) ≤ (n : Int) := by omega
  have hn1 : (n : Int) ≤ 1048576 := by omega
  obtain ⟨m, hm⟩ : ∃ m, m = n / 32 := ⟨_, rfl⟩
  obtain ⟨r, hr⟩ : ∃ r, r = n % 32 := ⟨_, rfl⟩
  have hmi : (n : Int) / 32 = (m : Int) := by omega
  have hri : (n : Int) % 32 = (r : Int) := by omega
  have hm2 : m ≤ 32768 := by omega
  have hr2 : r ≤ 31 := by omega
  have HNM := Hd (show n = 32 * m + r by omega)
  obtain ⟨i0, hi, hz0, hz1, hz2⟩ := info_parts limbInfo
  have hmk : ∀ W : World, (Instr.makeSlice 22 (.int .i64 (m : Int)) (.int .i64 (m : Int))).run Tryz.prog W = .ok (.slice (some ⟨W.heap.size, 0, none⟩) m m) (W.alloc (.cells (madeCells #[.int .u32 0] m) 114)) := fun W => by
    have h := run_make_rowN (P := Tryz.prog) 22 114 i0 _ Tryz.underlying22 hi hz0 .i64 .i64 m m (by omega) (by rw [hz2]; omega) (by omega) W
    rw [hz1, Nat.mul_one] at h
    exact h
  clear h hne hm hr
  go_enter Tryz.func313, Tryz.ntmps313
  have hown0 := (Row.made ((w.alloc (.cells #[.bool n1, .slice A xs.length c] 24)).alloc (.cells #[.bool false, .slice none 0 0] 24)) m).own (base := w.heap.size + 2) (by simp) (n := m) (by simp) (by simp; omega)
  rw [List.length_replicate, List.take_of_length_le (by simp)] at hown0
  simp only [World.size_alloc] at hown0
  have px2 := px.alloc (.cells (madeCells #[.int .u32 0] m) 114)
  have pr2 := pr.alloc (.cells (madeCells #[.int .u32 0] m) 114)
  have rx2 := rx.alloc (.cells (madeCells #[.int .u32 0] m) 114)
  have b2 := b0.alloc (by simp; omega) (.cells (madeCells #[.int .u32 0] m) 114)
  have HOW := Hd hown0
  have PX := Hd px2
  have PR := Hd pr2
  have RX := Hd rx2
  have B2 := Hd b2
  clear px pr rx b0 hown0 px2 pr2 rx2 b2
  go_wp2_with (at_builtin; refine wpList_append_any _ rfl (.tmp 16) (.tmp 18) _ rfl (w.heap.size + 2) 114 i0 _ 1 4 Tryz.underlying22 hi hz0 hz1 hz2 rfl (by omega) (.slice (some ⟨w.heap.size + 2, 0, none⟩) m m) m _ rfl HOW.out _ A xs.length c (cellsU xs) rfl RX.out.reads (cellsU_one _) (by unfold maxLen; omega) (by omega) (by simp) ?_; intro v1 w1 ho1 hg1 hat1)
  have e2 : cellsU (List.replicate m 0) ++ cellsU xs = cellsU (List.replicate m 0 ++ xs) := by simp [cellsU]
  rw [e2] at ho1
  have hlen1 : (List.replicate m 0 ++ xs).length = m + xs.length := by simp
  rw [← hlen1] at ho1
  have hl1 : Limbs (List.replicate m 0 ++ xs) := limbs_append.2 ⟨limbs_noughts _, HL.out⟩
  obtain ⟨A1, c1, rfl, f1, f2, f3⟩ := (OwnX.of_own hl1 ho1).form
  have hraw1 : OwnX w1 (w.heap.size + 2) (.slice A1 (List.replicate m 0 ++ xs).length c1) (List.replicate m 0 ++ xs) := ⟨hl1, A1, c1, rfl, f1, f2, f3⟩
  have hval1 : val (List.replicate m 0 ++ xs) * 2 ^ r = val xs * 2 ^ n := by
    rw [val_append, val_noughts, List.length_replicate, HNM.out, Nat.pow_add, Nat.pow_mul]
    rw [show (2 : Nat) ^ 32 = 4294967296 by decide]
    grind
  have px1 := PX.out.grown hg1 (by simp [Value.ownBlock])
  have pr1 := PR.out.grown hg1 (by simp [Value.ownBlock])
  have bl1 := B2.out.grown hg1 (by simp; omega) (fun k hk => by simp [Value.ownBlock] at hk; omega)
  have PX1 := Hd px1
  have PR1 := Hd pr1
  have RW1 := Hd hraw1
  have B1 := Hd bl1
  have HV1 := Hd hval1
  have hll : (List.replicate m 0 ++ xs).length ≤ 1200000 := by rw [hlen1]; omega
  have hs1 : w.heap.size + 2 ≤ w1.heap.size := by have := hg1.size; simp at this; omega
  generalize hLL : List.replicate m 0 ++ xs = LL at *
  clear ho1 hg1 hat1 e2 hl1 f1 f2 f3 hraw1 hval1 px1 pr1 bl1 HOW PX PR RX B2 hLL hlen1
  go_loop [6, 7] (fun v6 v7 => ∃ k f : Nat, v6 = .int .u32 f ∧ v7 = .int .i64 k ∧ k ≤ r ∧ f < 4294967296 ∧ Hid (f = 2 ^ k)) (fun _ v7 => r - (intOf v7).toNat)
  case atStart => exact ⟨0, 1, rfl, rfl, Nat.zero_le _, by omega, Hd rfl⟩
  case round =>
    obtain ⟨k, f, rfl, rfl, hk, hf, HF⟩ := hrel
    by_cases hkr : k < r
    · have h2f : 2 * f < 4294967296 := by
        have e : 2 * f = 2 ^ (k + 1) := by rw [HF.out, Nat.pow_succ, Nat.mul_comm]
        rw [e]
        exact Nat.lt_of_le_of_lt (Nat.pow_le_pow_right (by omega) (show k + 1 ≤ 31 by omega)) (by decide)
      have hki : (k : Int) < (r : Int) := by omega
      have h2i : (2 * (f : Int)) % 4294967296 = ((2 * f : Nat) : Int) := by omega
      have HF2 := Hd (show 2 * f = 2 ^ (k + 1) by rw [HF.out, Nat.pow_succ, Nat.mul_comm])
      clear HF
      go_wp2_with fail
      go_round
      case rel => exact ⟨k + 1, 2 * f, by first | rfl | go_num, by go_num, hkr, h2f, HF2⟩
      case measure => simp [intOf]; omega
    · obtain rfl : k = r := by omega
      have hge : (k : Int) ≤ (k : Int) := Int.le_refl _
      go_wp2_with fail
      have C1 := Hd (fun (V : World) (hK : KeptV (w.heap.size + 1) [24] w1 V) => show Calls Tryz.prog 310 #[.slice A1 LL.length c1, .int .u32 f] V (RetN V.heap.size V (val xs * 2 ^ n)) from by
        have := ref_times A1 c1 f LL hf (Nat.le_trans hll (by omega)) V (RW1.out.kept hK (by decide)).raw
        rw [HF.out, HV1.out] at this
        rw [← HF.out] at this
        exact this)
      have C2 := Hd (fun (V : World) (u : Value) (hu : OwnN V w.heap.size u (val xs * 2 ^ n)) => show Calls Tryz.prog 241 #[.bool n1, u] V (RetInt w.heap.size V z) from by
        have := ref_signed_own n1 u _ _ w.heap.size V (hu.ownL (Nat.le_refl _))
        rw [HZ.out]; exact this)
      have HPX := Hd (fun (V : World) (hV : Below (w.heap.size + 1) w1 V) => PX1.out.blk.below hV (Nat.lt_succ_self _))
      refine wp_region_free [.val (.pointer (some ⟨w.heap.size, 0, none⟩)) [], .val (.bool n1) [], .val (.slice A1 LL.length c1) [], .val (.int .u32 (f : Int)) [], .any false (fun u V => OwnN V w.heap.size u (val xs * 2 ^ n)) [], .any false (fun u V => IntOwn V w.heap.size u z) [4],
          .old (w.heap.size + 1) 24 #[.bool false, .slice none 0 0] 0 2 5 []]
        (w.heap.size + 1) w1 [24] (fun _ _ => False) _ mixedOrders2 (by omega) (Below.refl _ _) (KeptV.refl _ _ _) rfl (by kernel_rfl) (by kernel_rfl) (by kernel_rfl) (by kernel_rfl) (by kernel_rfl) (by kernel_rfl) (by kernel_rfl) (by kernel_rfl) rfl (by simp [oldsF]) ?_ ?_ ?_ ?_
      · simp only [StableF, and_true]
        exact ⟨fun u V V' h k => h.kept k (by decide), fun u V V' h k => h.kept k (by decide)⟩
      · simp only [OldsF, and_true]
        exact ⟨by omega, by omega, PR1.out.blk, by simp⟩
      · simp [StepsF, DepF, freeAct, fill, pairs]
        repeat' (first | apply And.intro | (intro (u : Value)))
        all_goals try exact ⟨_, _, _, rfl, rfl, rfl, rfl, intInfo⟩
        all_goals first
        | (intro V hV hK
           have a0 := (HPX.out V hV).cell 0
           simp at a0
           have hs2 := hK.size
           go_simp
           first
           | exact Below.refl _ _
           | ((with_reducible refine (C1.out V hK).mono ?_); rintro e w' ⟨v, rfl, hv, hb⟩; exact ⟨hv.base (by omega), hb⟩))
        | (intro V hV hK hu
           go_simp
           (with_reducible refine (C2.out V _ hu).mono ?_)
           rintro e w' ⟨v, rfl, hv, hb⟩
           exact ⟨hv, hb⟩)
        | exact fun _ _ _ (h : IntOwn _ _ _ _) => h.cells
      · simp [EndF, FactsF, freeAct, fill, pairs]
        intro u v V hV hK h1 h2 bq _ _ _
        obtain ⟨A2, c2, rfl, -⟩ := h2.form
        simp [setAll, Value.cells] at bq
        have k0 := bq.cell 0
        have k1 := bq.cell 1
        simp at k0 k1
        have H2 := Hd h2
        have HBV := Hd (B1.out.trans (hV.mono (by omega)))
        clear h1 h2 hV hK
        go_wp2_with fail
        exact bodyPost_ret (by simp [results, Tryz.results313, go_sem, k0, k1]) rfl ⟨_, rfl, H2.out, HBV.out⟩
/- Common of the references: the greatest number that goes into both, by halving. -/

theorem gcd_even {a b : Nat} (ha : a % 2 = 0) (hb : b % 2 = 0) : Nat.gcd a b = 2 * Nat.gcd (a / 2) (b / 2) := by
  have e1 : a = 2 * (a / 2) := by omega
  have e2 : b = 2 * (b / 2) := by omega
  conv => lhs; rw [e1, e2]
  exact Nat.gcd_mul_left 2 _ _
theorem gcd_half_left {a b : Nat} (ha : a % 2 = 0) (hb : b % 2 = 1) : Nat.gcd (a / 2) b = Nat.gcd a b := by
  have e1 : a = 2 * (a / 2) := by omega
  conv => rhs; rw [e1]
  have hc : Nat.Coprime 2 b := by
    rw [Nat.coprime_iff_gcd_eq_one, Nat.gcd_rec, hb]; rfl
  exact (Nat.Coprime.gcd_mul_left_cancel (a / 2) hc).symm
theorem gcd_half_right {a b : Nat} (ha : a % 2 = 1) (hb : b % 2 = 0) : Nat.gcd a (b / 2) = Nat.gcd a b := by
  rw [Nat.gcd_comm, gcd_half_left hb ha, Nat.gcd_comm]
theorem gcd_less {a b : Nat} (h : b ≤ a) : Nat.gcd (a - b) b = Nat.gcd a b := Nat.gcd_sub_self_left h

structure Cm1 (w wr : World) (X Y : Nat) (A1 : Option Addr) (c1 a : Nat) (A2 : Option Addr) (c2 b t : Nat) : Prop where
  ra : Raw wr A1 c1 (natL a)
  rb : Raw wr A2 c2 (natL b)
  low : Below w.heap.size w wr
  pa : 0 < a
  pb : 0 < b
  gcd : Nat.gcd a b * 2 ^ t = Nat.gcd X Y
  la : a * 2 ^ t ≤ X
  lb : b ≤ Y
theorem Cm1.next {w wr wr' : World} {X Y : Nat} {A1 A2 A1' A2' : Option Addr} {c1 a c2 b t c1' c2' : Nat} (h : Cm1 w wr X Y A1 c1 a A2 c2 b t) (ha : a % 2 = 0) (hb : b % 2 = 0) (r1 : Raw wr' A1' c1' (natL (a / 2))) (r2 : Raw wr' A2' c2' (natL (b / 2))) (hl : Below w.heap.size w wr') : Cm1 w wr' X Y A1' c1' (a / 2) A2' c2' (b / 2) (t + 1) := by
  have h1 := h.pa
  have h2 := h.pb
  refine ⟨r1, r2, hl, by omega, by omega, ?_, ?_, by have := h.lb; omega⟩
  · rw [← h.gcd, gcd_even ha hb, Nat.pow_succ]
    generalize 2 ^ t = p
    rw [Nat.mul_comm p 2, ← Nat.mul_assoc, Nat.mul_comm _ 2]
  · have := h.la
    rw [Nat.pow_succ]
    have e : a / 2 * (2 ^ t * 2) = (a / 2 * 2) * 2 ^ t := by rw [Nat.mul_comm (2 ^ t), Nat.mul_assoc]
    rw [e, show a / 2 * 2 = a by omega]
    exact this
theorem twos_le {X a t L : Nat} (ha : 0 < a) (h : a * 2 ^ t ≤ X) (hX : (natL X).length ≤ L) : t ≤ 32 * L := by
  have h1 : X < 2 ^ (32 * L) := by
    have := natL_length_le.1 hX
    rw [show 4294967296 = 2 ^ 32 by decide, ← Nat.pow_mul] at this
    exact this
  have h2 : 2 ^ t ≤ X := Nat.le_trans (Nat.le_mul_of_pos_left _ ha) h
  have h3 : 2 ^ t < 2 ^ (32 * L) := by omega
  exact Nat.le_of_lt ((Nat.pow_lt_pow_iff_right (by omega)).1 h3)

theorem odd_of {a b : Nat} (h : ¬ (a % 2 = 0 ∧ b % 2 = 0)) : a % 2 = 1 ∨ b % 2 = 1 := by omega
structure Cm2 (w wr : World) (g : Nat) (A1 : Option Addr) (c1 a : Nat) (A2 : Option Addr) (c2 b L : Nat) : Prop where
  ra : Raw wr A1 c1 (natL a)
  rb : Raw wr A2 c2 (natL b)
  low : Below w.heap.size w wr
  pb : 0 < b
  odd : a % 2 = 1 ∨ b % 2 = 1
  gcd : Nat.gcd a b = g
  la : (natL a).length ≤ L
  lb : (natL b).length ≤ L
theorem Cm2.halfa {w wr wr' : World} {g : Nat} {A1 A2 A1' : Option Addr} {c1 a c2 b L c1' : Nat} (h : Cm2 w wr g A1 c1 a A2 c2 b L) (ha : a % 2 = 0) (r1 : Raw wr' A1' c1' (natL (a / 2))) (hb : Below wr.heap.size wr wr') : Cm2 w wr' g A1' c1' (a / 2) A2 c2 b L := by
  have ho : b % 2 = 1 := by have := h.odd; omega
  exact ⟨r1, h.rb.below hb, belowTo h.low hb, h.pb, .inr ho, by rw [gcd_half_left ha ho]; exact h.gcd, Nat.le_trans (natL_mono (Nat.div_le_self _ _)) h.la, h.lb⟩
theorem Cm2.halfb {w wr wr' : World} {g : Nat} {A1 A2 A2' : Option Addr} {c1 a c2 b L c2' : Nat} (h : Cm2 w wr g A1 c1 a A2 c2 b L) (hb0 : b % 2 = 0) (r2 : Raw wr' A2' c2' (natL (b / 2))) (hb : Below wr.heap.size wr wr') : Cm2 w wr' g A1 c1 a A2' c2' (b / 2) L := by
  have ho : a % 2 = 1 := by have := h.odd; omega
  have := h.pb
  exact ⟨h.ra.below hb, r2, belowTo h.low hb, by omega, .inl ho, by rw [gcd_half_right ho hb0]; exact h.gcd, h.la, Nat.le_trans (natL_mono (Nat.div_le_self _ _)) h.lb⟩
theorem natL_pos_len {a : Nat} (h : 0 < a) : 0 < (natL a).length := by
  rcases Nat.eq_zero_or_pos (natL a).length with h0 | h0
  · have := natL_eq_nil.1 (List.eq_nil_of_length_eq_zero h0)
    omega
  · exact h0
theorem ref_half_n (A : Option Addr) (c a : Nat) (hl : (natL a).length ≤ 1073741824) (w : World) (h : Raw w A c (natL a)) :
    Calls Tryz.prog 312 #[.slice A (natL a).length c] w (RetN w.heap.size w (a / 2)) := by
  have := ref_half A c (natL a) hl w h
  rwa [val_natL] at this
theorem ref_even_n (A : Option Addr) (c a : Nat) (h0 : 0 < a) (w : World) (h : Raw w A c (natL a)) (b : Bool) (hb : b = (a % 2 == 0)) :
    Calls Tryz.prog 311 #[.slice A (natL a).length c] w fun e w' => e = .returned (.bool b) ∧ w = w' :=
  ref_even A c (natL a) (natL_pos_len h0) w h b (by rw [val_natL]; exact hb)

theorem ref_Common_more (n1 n2 : Bool) (A B : Option Addr) (c d : Nat) (xs ys : List Nat) (hcx : Canon xs) (hcy : Canon ys) (hnx : xs ≠ []) (hny : ys ≠ []) (hlx : xs.length ≤ 30000) (hly : ys.length ≤ 30000) (w : World) (h : Raw w A c xs) (g : Raw w B d ys) :
    Calls Tryz.prog 281 #[.agg #[.bool n1, .slice A xs.length c], .agg #[.bool n2, .slice B ys.length d]] w (RetInt w.heap.size w ((Nat.gcd (val xs) (val ys) : Nat) : Int)) := by
  have px := ((Pair.new w 24 (.bool n1) (.slice A xs.length c)).alloc (.cells #[.bool n2, .slice B ys.length d] 24)).alloc (.cells #[.bool false, .slice none 0 0] 24)
  have py := (Pair.new (w.alloc (.cells #[.bool n1, .slice A xs.length c] 24)) 24 (.bool n2) (.slice B ys.length d)).alloc (.cells #[.bool false, .slice none 0 0] 24)
  have pr := Pair.new ((w.alloc (.cells #[.bool n1, .slice A xs.length c] 24)).alloc (.cells #[.bool n2, .slice B ys.length d] 24)) 24 (.bool false) (.slice none 0 0)
  have rx := (((h.alloc (.cells #[.bool n1, .slice A xs.length c] 24)).alloc (.cells #[.bool n2, .slice B ys.length d] 24)).alloc (.cells #[.bool false, .slice none 0 0] 24))
  have ry := (((g.alloc (.cells #[.bool n1, .slice A xs.length c] 24)).alloc (.cells #[.bool n2, .slice B ys.length d] 24)).alloc (.cells #[.bool false, .slice none 0 0] 24))
  have b0 := (((Below.refl w.heap.size w).alloc (Nat.le_refl _) (.cells #[.bool n1, .slice A xs.length c] 24)).alloc (by simp) (.cells #[.bool n2, .slice B ys.length d] 24)).alloc (by simp; omega) (.cells #[.bool false, .slice none 0 0] 24)
  simp only [World.size_alloc] at py pr
  obtain ⟨X, hX⟩ : ∃ X, X = val xs := ⟨_, rfl⟩
  obtain ⟨Y, hY⟩ : ∃ Y, Y = val ys := ⟨_, rfl⟩
  have eX : natL X = xs := by rw [hX]; exact natL_val h.limbs hcx
  have eY : natL Y = ys := by rw [hY]; exact natL_val g.limbs hcy
  have hpX : 0 < X := by
    rcases Nat.eq_zero_or_pos X with h0 | h0
    · rw [h0, natL_zero] at eX; exact absurd eX.symm hnx
    · exact h0
  have hpY : 0 < Y := by
    rcases Nat.eq_zero_or_pos Y with h0 | h0
    · rw [h0, natL_zero] at eY; exact absurd eY.symm hny
    · exact h0
  rw [← hX, ← hY]
  rw [← eX] at hlx px py pr rx ry b0 ⊢
  rw [← eY] at hly px py pr rx ry b0 ⊢
  clear h g hnx hny hcx hcy eX eY hX hY
  have e1 : (((natL X).length : Int) == 0) = false := beq_false_of_ne (by have := natL_pos_len hpX; omega)
  have e2 : (((natL Y).length : Int) == 0) = false := beq_false_of_ne (by have := natL_pos_len hpY; omega)
  go_enter Tryz.func281, Tryz.ntmps281
  obtain ⟨W, E⟩ : ∃ W, W = ((w.alloc (.cells #[.bool n1, .slice A (natL X).length c] 24)).alloc (.cells #[.bool n2, .slice B (natL Y).length d] 24)).alloc (.cells #[.bool false, .slice none 0 0] 24) := ⟨_, rfl⟩
  go_wp2_with fail
  rw [← E] at px py pr b0 rx ry ⊢
  clear E e1 e2
  have PR := Hd pr
  have B0 := Hd b0
  have HLX := Hd hlx
  have HLY := Hd hly
  have HPX := Hd hpX
  have HPY := Hd hpY
  have H0 := Hd (show Cm1 w W X Y A c X B d Y 0 from ⟨rx, ry, b0, hpX, hpY, by simp, by simp, Nat.le_refl _⟩)
  have HK0 := Hd (Below.refl W.heap.size W)
  clear px py pr rx ry b0 hlx hly hpX hpY
  go_loopg [5, 6, 7] (X) (fun k v5 v6 v7 wr => ∃ A1 c1 a A2 c2 b t, v5 = .slice A1 (natL a).length c1 ∧ v6 = .slice A2 (natL b).length c2 ∧ v7 = .int .i64 (t : Nat) ∧ k = a ∧ Hid (Cm1 w wr X Y A1 c1 a A2 c2 b t ∧ Below W.heap.size W wr))
  case atStart => exact ⟨A, c, X, B, d, Y, 0, rfl, rfl, rfl, rfl, Hd ⟨H0.out, HK0.out⟩⟩
  case round =>
    clear H0 HK0
    obtain ⟨A1, c1, a, A2, c2, b, t, rfl, rfl, rfl, hka, HR⟩ := hrel
    have HKA := Hd hka
    clear hka
    have la := Nat.le_trans (natL_mono (Nat.le_trans (Nat.le_mul_of_pos_right a (Nat.two_pow_pos t)) HR.out.1.la)) HLX.out
    have lb := Nat.le_trans (natL_mono HR.out.1.lb) HLY.out
    have ht := twos_le HR.out.1.pa HR.out.1.la HLX.out
    by_cases hab : a % 2 = 0 ∧ b % 2 = 0
    · have C1 := Hd (ref_even_n A1 c1 a HR.out.1.pa wr HR.out.1.ra true (by simp [hab.1]))
      have C2 := Hd (ref_even_n A2 c2 b HR.out.1.pb wr HR.out.1.rb true (by simp [hab.2]))
      have C3 := Hd (ref_half_n A1 c1 a (by omega) wr HR.out.1.ra)
      have HAB := Hd hab
      clear hab
      go_wp2_with (first | (go_at_call 311; ((with_reducible refine C1.out.mono ?_); rintro e w' ⟨rfl, rfl⟩)) | (go_at_call 311; ((with_reducible refine C2.out.mono ?_); rintro e w' ⟨rfl, rfl⟩)))
      refine C3.out.mono ?_
      rintro e w1 ⟨v1, rfl, hv1, hb1⟩
      obtain ⟨A3, c3, rfl, r3⟩ := hv1.raw
      have C4 := Hd (ref_half_n A2 c2 b (by omega) w1 (HR.out.1.rb.below hb1))
      have HB1 := Hd hb1
      have R3 := Hd r3
      clear hv1 hb1 C1 C2 C3 r3
      go_wp2_with fail
      refine C4.out.mono ?_
      rintro e w2 ⟨v2, rfl, hv2, hb2⟩
      obtain ⟨A4, c4, rfl, r4⟩ := hv2.raw
      have HN := Hd (show Cm1 w w2 X Y A3 c3 (a / 2) A4 c4 (b / 2) (t + 1) ∧ Below W.heap.size W w2 from ⟨HR.out.1.next HAB.out.1 HAB.out.2 (R3.out.below hb2) r4 (belowTo (belowTo HR.out.1.low HB1.out) hb2), belowTo (belowTo HR.out.2 HB1.out) hb2⟩)
      have hlt : a / 2 < gk := by have := HR.out.1.pa; have := HKA.out; omega
      clear hv2 hb2 r4 C4 HB1 R3 HR HAB
      go_wp2_with fail
      go_roundg (a / 2)
      case measure => exact hlt
      case rel => exact ⟨A3, c3, a / 2, A4, c4, b / 2, t + 1, rfl, rfl, by go_num, rfl, HN⟩
    · have hodd := odd_of hab
      obtain ⟨g, hg⟩ : ∃ g, g = Nat.gcd a b := ⟨_, rfl⟩
      have HG := Hd (show g * 2 ^ t = Nat.gcd X Y by rw [hg]; exact HR.out.1.gcd)
      have H2 := Hd (show Cm2 w wr g A1 c1 a A2 c2 b 30000 ∧ Below W.heap.size W wr from ⟨⟨HR.out.1.ra, HR.out.1.rb, HR.out.1.low, HR.out.1.pb, hodd, hg.symm, la, lb⟩, HR.out.2⟩)
      have C1 := fun b0 hb0 => ref_even_n A1 c1 a HR.out.1.pa wr HR.out.1.ra b0 hb0
      have C2 := fun b0 hb0 => ref_even_n A2 c2 b HR.out.1.pb wr HR.out.1.rb b0 hb0
      have HT := Hd ht
      by_cases ha : a % 2 = 0
      all_goals
        have hb : a % 2 = 0 → b % 2 = 1 := by omega
        have C3 := Hd (C1 (a % 2 == 0) rfl)
        have C4 := Hd (C2 (b % 2 == 0) rfl)
        clear C1 C2 hg hab la lb ht hodd HR
      · have C5 : Calls Tryz.prog 311 #[.slice A1 (natL a).length c1] wr fun e w' => e = .returned (.bool true) ∧ wr = w' := by
          have := C3.out; rwa [show (a % 2 == 0) = true by simp [ha]] at this
        have C6 : Calls Tryz.prog 311 #[.slice A2 (natL b).length c2] wr fun e w' => e = .returned (.bool false) ∧ wr = w' := by
          have := C4.out; rwa [show (b % 2 == 0) = false by simp [hb ha]] at this
        have H5 := Hd C5
        have H6 := Hd C6
        clear C3 C4 C5 C6 ha hb
        go_wp2_with (first | (go_at_call 311; ((with_reducible refine H5.out.mono ?_); rintro e w' ⟨rfl, rfl⟩)) | (go_at_call 311; ((with_reducible refine H6.out.mono ?_); rintro e w' ⟨rfl, rfl⟩)))
        -- LOOP2
        clear H5
        go_loopg [5, 6, 8] (a + b) (fun k v5 v6 v8 wr => ∃ A1 c1 a A2 c2 b, v5 = .slice A1 (natL a).length c1 ∧ v6 = .slice A2 (natL b).length c2 ∧ Hid (k = a + b) ∧ Hid (Cm2 w wr g A1 c1 a A2 c2 b 30000 ∧ Below W.heap.size W wr))
        case atStart => exact ⟨A1, c1, a, A2, c2, b, rfl, rfl, Hd rfl, H2⟩
        case round =>
          clear H2
          rename_i HKA0 _ _
          obtain ⟨A1, c1, a, A2, c2, b, rfl, rfl, HKA, HR⟩ := hrel
          rcases Nat.eq_zero_or_pos a with ha | ha
          · subst ha
            have hgb : g = b := by have := HR.out.1.gcd; rw [Nat.gcd_zero_left] at this; exact this.symm
            have hl0 : (natL 0).length = 0 := by simp [natL_zero]
            rw [hl0]
            have C1 := ref_signed_more false A2 c2 (natL b) wr HR.out.1.rb (by rw [val_natL]; have := HR.out.1.pb; omega)
            rw [val_natL] at C1
            have H1 := Hd C1
            have HGB := Hd hgb
            have hnb : natL b ≠ [] := fun h0 => by have := natL_eq_nil.1 h0; have := HR.out.1.pb; omega
            have hlb := HR.out.1.lb
            clear C1 hgb hl0
            go_wp2_with fail
            refine H1.out.mono ?_
            rintro e w1 ⟨rfl, hb1⟩
            have C2 := Hd (ref_Double_z false A2 c2 t (natL b) hnb (by have := HT.out; omega) (by omega) ((Nat.gcd X Y : Nat) : Int) (Hd (by rw [val_natL, ← HGB.out, HG.out]; rfl)) w1 (HR.out.1.rb.below hb1))
            have HB1 := Hd hb1
            clear hb1 H1
            go_wp2_with fail
            refine C2.out.mono ?_
            rintro e w2 ⟨v2, rfl, hv2, hb2⟩
            have hW2 := belowTo (belowTo HR.out.2 HB1.out) hb2
            have pr := PR.out.below hW2
            obtain ⟨l3, q0, q1, r0, r1⟩ := pr.facts
            obtain ⟨A3, c3, rfl, o3⟩ := hv2.nat
            have HO := Hd ((o3.pair pr (.bool false) (.slice A3 (natL (Nat.gcd X Y)).length c3)).int.base (show w.heap.size ≤ w1.heap.size from Nat.le_trans B0.out.size (belowTo HR.out.2 HB1.out).size))
            have HB := Hd (below2 (belowTo B0.out hW2) (show w.heap.size ≤ w.heap.size + 2 by omega) (.bool false) (.slice A3 (natL (Nat.gcd X Y)).length c3))
            have HQ := Hd (pr.store (.bool false) (.slice A3 (natL (Nat.gcd X Y)).length c3))
            clear hv2 hb2 o3 C2 pr hW2
            go_wp2_with fail
            obtain ⟨_, k0, k1, _, _⟩ := HQ.out.facts
            exact bodyPost_ret (by simp [results, Tryz.results281, go_sem, k0, k1]) rfl ⟨_, rfl, HO.out, HB.out⟩
          · have hla : decide (0 < (natL a).length) = true := decide_eq_true (natL_pos_len ha)
            have hlen1 := HR.out.1.la
            have hlen2 := HR.out.1.lb
            obtain ⟨wo, hwo⟩ : ∃ wo : World, wo = wr := ⟨_, rfl⟩
            rw [← hwo] at HR ⊢
            clear hwo
            go_wp2_with fail
            go_loopg [5] (a) (fun k v5 wr => ∃ A1 c1 a', v5 = .slice A1 (natL a').length c1 ∧ Hid (k = a') ∧ Hid (Cm2 w wr g A1 c1 a' A2 c2 b 30000 ∧ 0 < a' ∧ a' ≤ a ∧ Below W.heap.size W wr))
            case atStart => exact ⟨A1, c1, a, rfl, Hd rfl, Hd ⟨HR.out.1, ha, Nat.le_refl _, HR.out.2⟩⟩
            case round =>
              obtain ⟨A3, c3, a3, rfl, HK3, HR3⟩ := hrel
              have hl3 := HR3.out.1.la
              by_cases ha2 : a3 % 2 = 0
              · have C1 := Hd (ref_even_n A3 c3 a3 HR3.out.2.1 wr HR3.out.1.ra true (by simp [ha2]))
                have C2 := Hd (ref_half_n A3 c3 a3 (by omega) wr HR3.out.1.ra)
                have HA2 := Hd ha2
                clear ha2
                go_wp2_with (first | (go_at_call 311; ((with_reducible refine C1.out.mono ?_); rintro e w' ⟨rfl, rfl⟩)))
                refine C2.out.mono ?_
                rintro e w1 ⟨v1, rfl, hv1, hb1⟩
                obtain ⟨A4, c4, rfl, r4⟩ := hv1.raw
                have hpos := HR3.out.2.1
                have hle3 := HR3.out.2.2.1
                have he3 := HA2.out
                have HN := Hd (show Cm2 w w1 g A4 c4 (a3 / 2) A2 c2 b 30000 ∧ 0 < a3 / 2 ∧ a3 / 2 ≤ a ∧ Below W.heap.size W w1 from ⟨HR3.out.1.halfa HA2.out r4 hb1, by omega, by omega, belowTo HR3.out.2.2.2 hb1⟩)
                have HM := Hd (show a3 / 2 < a3 by omega)
                clear hv1 hb1 r4 C1 C2 he3 hpos hle3
                go_wp2_with fail
                go_roundg (a3 / 2)
                case measure => rw [HK3.out]; exact HM.out
                case rel => exact ⟨A4, c4, a3 / 2, rfl, Hd rfl, HN⟩
              · have ho3 : a3 % 2 = 1 := by omega
                have C1 := Hd (ref_even_n A3 c3 a3 HR3.out.2.1 wr HR3.out.1.ra false (by simp [ho3]))
                have HO3 := Hd ho3
                clear ha2 ho3
                go_wp2_with (first | (go_at_call 311; ((with_reducible refine C1.out.mono ?_); rintro e w' ⟨rfl, rfl⟩)))
                obtain ⟨wq, hwq⟩ : ∃ wq : World, wq = wr := ⟨_, rfl⟩
                rw [← hwq] at HR3 ⊢
                clear hwq C1
                go_loopg [6] (b) (fun k v6 wr => ∃ A2 c2 b', v6 = .slice A2 (natL b').length c2 ∧ Hid (k = b') ∧ Hid (Cm2 w wr g A3 c3 a3 A2 c2 b' 30000 ∧ b' ≤ b ∧ Below W.heap.size W wr))
                case atStart => exact ⟨A2, c2, b, rfl, Hd rfl, Hd ⟨HR3.out.1, Nat.le_refl _, HR3.out.2.2.2⟩⟩
                case round =>
                  obtain ⟨A4, c4, b4, rfl, HK4, HR4⟩ := hrel
                  have hl4 := HR4.out.1.lb
                  by_cases hb2 : b4 % 2 = 0
                  · have C1 := Hd (ref_even_n A4 c4 b4 HR4.out.1.pb wr HR4.out.1.rb true (by simp [hb2]))
                    have C2 := Hd (ref_half_n A4 c4 b4 (by omega) wr HR4.out.1.rb)
                    have HB2 := Hd hb2
                    clear hb2
                    go_wp2_with (first | (go_at_call 311; ((with_reducible refine C1.out.mono ?_); rintro e w' ⟨rfl, rfl⟩)))
                    refine C2.out.mono ?_
                    rintro e w1 ⟨v1, rfl, hv1, hb1⟩
                    obtain ⟨A5, c5, rfl, r5⟩ := hv1.raw
                    have hpos := HR4.out.1.pb
                    have hle4 := HR4.out.2.1
                    have he4 := HB2.out
                    have HN := Hd (show Cm2 w w1 g A3 c3 a3 A5 c5 (b4 / 2) 30000 ∧ b4 / 2 ≤ b ∧ Below W.heap.size W w1 from ⟨HR4.out.1.halfb HB2.out r5 hb1, by omega, belowTo HR4.out.2.2 hb1⟩)
                    have HM := Hd (show b4 / 2 < b4 by omega)
                    clear hv1 hb1 r5 C1 C2 he4 hpos hle4
                    go_wp2_with fail
                    go_roundg (b4 / 2)
                    case measure => rw [HK4.out]; exact HM.out
                    case rel => exact ⟨A5, c5, b4 / 2, rfl, Hd rfl, HN⟩
                  · have ho4 : b4 % 2 = 1 := by omega
                    have C1 := Hd (ref_even_n A4 c4 b4 HR4.out.1.pb wr HR4.out.1.rb false (by simp [ho4]))
                    have C2 := Hd (ref_cmp_any A3 A4 c3 c4 (natL a3) (natL b4) (canon_natL _) (canon_natL _) wr HR4.out.1.ra HR4.out.1.rb)
                    have HO4 := Hd ho4
                    clear hb2 ho4
                    go_wp2_with (first | (go_at_call 311; ((with_reducible refine C1.out.mono ?_); rintro e w' ⟨rfl, rfl⟩)))
                    refine C2.out.mono ?_
                    rintro e w1 ⟨rfl, hb1⟩
                    obtain ⟨z, hze⟩ : ∃ z, z = cmpv (val (natL a3)) (val (natL b4)) := ⟨_, rfl⟩
                    rw [← hze]
                    have hz2 : a3 < b4 ↔ z < 0 := by
                      rw [hze, val_natL, val_natL]
                      unfold cmpv
                      split <;> (try split) <;> omega
                    have RA := Hd (HR4.out.1.ra.below hb1)
                    have RB := Hd (HR4.out.1.rb.below hb1)
                    have HL := Hd (belowTo HR4.out.1.low hb1)
                    have HW := Hd (belowTo HR4.out.2.2 hb1)
                    have hp4 := HR4.out.1.pb
                    have hl3' := HR4.out.1.la
                    have hle3 := HR3.out.2.2.1
                    have hle4 := HR4.out.2.1
                    have hpo3 := HR3.out.2.1
                    have HGC := Hd HR4.out.1.gcd
                    clear hze C1 C2 hb1
                    by_cases hlt : a3 < b4
                    · have hd : decide (z < 0) = true := by simp; omega
                      have C3 := ref_subN A4 A3 c4 c3 (natL b4) (natL a3) (natL_mono (Nat.le_of_lt hlt)) (by rw [val_natL, val_natL]; omega) (by omega) w1 RB.out RA.out
                      rw [val_natL, val_natL] at C3
                      have H3 := Hd C3
                      have HLT := Hd hlt
                      clear hz2 C3 hlt
                      go_wp2_with fail
                      refine H3.out.mono ?_
                      rintro e w2 ⟨v2, rfl, hv2, hb2⟩
                      obtain ⟨A6, c6, rfl, r6⟩ := hv2.raw
                      have hlt := HLT.out
                      have HN := Hd (show Cm2 w w2 g A6 c6 (b4 - a3) A3 c3 a3 30000 ∧ Below W.heap.size W w2 from ⟨⟨r6, RA.out.below hb2, belowTo HL.out hb2, hpo3, .inr HO3.out, by rw [gcd_less (Nat.le_of_lt hlt), Nat.gcd_comm]; exact HGC.out, Nat.le_trans (natL_mono (Nat.sub_le _ _)) hl4, hl3'⟩, belowTo HW.out hb2⟩)
                      have HM := Hd (show b4 - a3 + a3 < a + b by omega)
                      clear hv2 hb2 r6 H3 hlt
                      go_wp2_with fail
                      go_roundg (b4 - a3 + a3)
                      case measure => rw [HKA.out]; exact HM.out
                      case rel => exact ⟨A6, c6, b4 - a3, A3, c3, a3, rfl, rfl, Hd rfl, HN⟩
                    · have hd : decide (z < 0) = false := by simp; omega
                      have C3 := ref_subN A3 A4 c3 c4 (natL a3) (natL b4) (natL_mono (by omega)) (by rw [val_natL, val_natL]; omega) (by omega) w1 RA.out RB.out
                      rw [val_natL, val_natL] at C3
                      have H3 := Hd C3
                      have HLT := Hd hlt
                      clear hz2 C3 hlt
                      go_wp2_with fail
                      refine H3.out.mono ?_
                      rintro e w2 ⟨v2, rfl, hv2, hb2⟩
                      obtain ⟨A6, c6, rfl, r6⟩ := hv2.raw
                      have hlt := HLT.out
                      have HN := Hd (show Cm2 w w2 g A6 c6 (a3 - b4) A4 c4 b4 30000 ∧ Below W.heap.size W w2 from ⟨⟨r6, RB.out.below hb2, belowTo HL.out hb2, hp4, .inr HO4.out, by rw [gcd_less (by omega)]; exact HGC.out, Nat.le_trans (natL_mono (Nat.sub_le _ _)) hl3', hl4⟩, belowTo HW.out hb2⟩)
                      have HM := Hd (show a3 - b4 + b4 < a + b by omega)
                      clear hv2 hb2 r6 H3 hlt
                      go_wp2_with fail
                      go_roundg (a3 - b4 + b4)
                      case measure => rw [HKA.out]; exact HM.out
                      case rel => exact ⟨A6, c6, a3 - b4, A4, c4, b4, rfl, rfl, Hd rfl, HN⟩
      · have C5 : Calls Tryz.prog 311 #[.slice A1 (natL a).length c1] wr fun e w' => e = .returned (.bool false) ∧ wr = w' := by
          have := C3.out; rwa [show (a % 2 == 0) = false by simp; omega] at this
        have H5 := Hd C5
        clear C3 C4 C5 ha hb
        go_wp2_with (first | (go_at_call 311; ((with_reducible refine H5.out.mono ?_); rintro e w' ⟨rfl, rfl⟩)))
        -- LOOP2
        clear H5
        go_loopg [5, 6, 8] (a + b) (fun k v5 v6 v8 wr => ∃ A1 c1 a A2 c2 b, v5 = .slice A1 (natL a).length c1 ∧ v6 = .slice A2 (natL b).length c2 ∧ Hid (k = a + b) ∧ Hid (Cm2 w wr g A1 c1 a A2 c2 b 30000 ∧ Below W.heap.size W wr))
        case atStart => exact ⟨A1, c1, a, A2, c2, b, rfl, rfl, Hd rfl, H2⟩
        case round =>
          clear H2
          rename_i HKA0 _ _
          obtain ⟨A1, c1, a, A2, c2, b, rfl, rfl, HKA, HR⟩ := hrel
          rcases Nat.eq_zero_or_pos a with ha | ha
          · subst ha
            have hgb : g = b := by have := HR.out.1.gcd; rw [Nat.gcd_zero_left] at this; exact this.symm
            have hl0 : (natL 0).length = 0 := by simp [natL_zero]
            rw [hl0]
            have C1 := ref_signed_more false A2 c2 (natL b) wr HR.out.1.rb (by rw [val_natL]; have := HR.out.1.pb; omega)
            rw [val_natL] at C1
            have H1 := Hd C1
            have HGB := Hd hgb
            have hnb : natL b ≠ [] := fun h0 => by have := natL_eq_nil.1 h0; have := HR.out.1.pb; omega
            have hlb := HR.out.1.lb
            clear C1 hgb hl0
            go_wp2_with fail
            refine H1.out.mono ?_
            rintro e w1 ⟨rfl, hb1⟩
            have C2 := Hd (ref_Double_z false A2 c2 t (natL b) hnb (by have := HT.out; omega) (by omega) ((Nat.gcd X Y : Nat) : Int) (Hd (by rw [val_natL, ← HGB.out, HG.out]; rfl)) w1 (HR.out.1.rb.below hb1))
            have HB1 := Hd hb1
            clear hb1 H1
            go_wp2_with fail
            refine C2.out.mono ?_
            rintro e w2 ⟨v2, rfl, hv2, hb2⟩
            have hW2 := belowTo (belowTo HR.out.2 HB1.out) hb2
            have pr := PR.out.below hW2
            obtain ⟨l3, q0, q1, r0, r1⟩ := pr.facts
            obtain ⟨A3, c3, rfl, o3⟩ := hv2.nat
            have HO := Hd ((o3.pair pr (.bool false) (.slice A3 (natL (Nat.gcd X Y)).length c3)).int.base (show w.heap.size ≤ w1.heap.size from Nat.le_trans B0.out.size (belowTo HR.out.2 HB1.out).size))
            have HB := Hd (below2 (belowTo B0.out hW2) (show w.heap.size ≤ w.heap.size + 2 by omega) (.bool false) (.slice A3 (natL (Nat.gcd X Y)).length c3))
            have HQ := Hd (pr.store (.bool false) (.slice A3 (natL (Nat.gcd X Y)).length c3))
            clear hv2 hb2 o3 C2 pr hW2
            go_wp2_with fail
            obtain ⟨_, k0, k1, _, _⟩ := HQ.out.facts
            exact bodyPost_ret (by simp [results, Tryz.results281, go_sem, k0, k1]) rfl ⟨_, rfl, HO.out, HB.out⟩
          · have hla : decide (0 < (natL a).length) = true := decide_eq_true (natL_pos_len ha)
            have hlen1 := HR.out.1.la
            have hlen2 := HR.out.1.lb
            obtain ⟨wo, hwo⟩ : ∃ wo : World, wo = wr := ⟨_, rfl⟩
            rw [← hwo] at HR ⊢
            clear hwo
            go_wp2_with fail
            go_loopg [5] (a) (fun k v5 wr => ∃ A1 c1 a', v5 = .slice A1 (natL a').length c1 ∧ Hid (k = a') ∧ Hid (Cm2 w wr g A1 c1 a' A2 c2 b 30000 ∧ 0 < a' ∧ a' ≤ a ∧ Below W.heap.size W wr))
            case atStart => exact ⟨A1, c1, a, rfl, Hd rfl, Hd ⟨HR.out.1, ha, Nat.le_refl _, HR.out.2⟩⟩
            case round =>
              obtain ⟨A3, c3, a3, rfl, HK3, HR3⟩ := hrel
              have hl3 := HR3.out.1.la
              by_cases ha2 : a3 % 2 = 0
              · have C1 := Hd (ref_even_n A3 c3 a3 HR3.out.2.1 wr HR3.out.1.ra true (by simp [ha2]))
                have C2 := Hd (ref_half_n A3 c3 a3 (by omega) wr HR3.out.1.ra)
                have HA2 := Hd ha2
                clear ha2
                go_wp2_with (first | (go_at_call 311; ((with_reducible refine C1.out.mono ?_); rintro e w' ⟨rfl, rfl⟩)))
                refine C2.out.mono ?_
                rintro e w1 ⟨v1, rfl, hv1, hb1⟩
                obtain ⟨A4, c4, rfl, r4⟩ := hv1.raw
                have hpos := HR3.out.2.1
                have hle3 := HR3.out.2.2.1
                have he3 := HA2.out
                have HN := Hd (show Cm2 w w1 g A4 c4 (a3 / 2) A2 c2 b 30000 ∧ 0 < a3 / 2 ∧ a3 / 2 ≤ a ∧ Below W.heap.size W w1 from ⟨HR3.out.1.halfa HA2.out r4 hb1, by omega, by omega, belowTo HR3.out.2.2.2 hb1⟩)
                have HM := Hd (show a3 / 2 < a3 by omega)
                clear hv1 hb1 r4 C1 C2 he3 hpos hle3
                go_wp2_with fail
                go_roundg (a3 / 2)
                case measure => rw [HK3.out]; exact HM.out
                case rel => exact ⟨A4, c4, a3 / 2, rfl, Hd rfl, HN⟩
              · have ho3 : a3 % 2 = 1 := by omega
                have C1 := Hd (ref_even_n A3 c3 a3 HR3.out.2.1 wr HR3.out.1.ra false (by simp [ho3]))
                have HO3 := Hd ho3
                clear ha2 ho3
                go_wp2_with (first | (go_at_call 311; ((with_reducible refine C1.out.mono ?_); rintro e w' ⟨rfl, rfl⟩)))
                obtain ⟨wq, hwq⟩ : ∃ wq : World, wq = wr := ⟨_, rfl⟩
                rw [← hwq] at HR3 ⊢
                clear hwq C1
                go_loopg [6] (b) (fun k v6 wr => ∃ A2 c2 b', v6 = .slice A2 (natL b').length c2 ∧ Hid (k = b') ∧ Hid (Cm2 w wr g A3 c3 a3 A2 c2 b' 30000 ∧ b' ≤ b ∧ Below W.heap.size W wr))
                case atStart => exact ⟨A2, c2, b, rfl, Hd rfl, Hd ⟨HR3.out.1, Nat.le_refl _, HR3.out.2.2.2⟩⟩
                case round =>
                  obtain ⟨A4, c4, b4, rfl, HK4, HR4⟩ := hrel
                  have hl4 := HR4.out.1.lb
                  by_cases hb2 : b4 % 2 = 0
                  · have C1 := Hd (ref_even_n A4 c4 b4 HR4.out.1.pb wr HR4.out.1.rb true (by simp [hb2]))
                    have C2 := Hd (ref_half_n A4 c4 b4 (by omega) wr HR4.out.1.rb)
                    have HB2 := Hd hb2
                    clear hb2
                    go_wp2_with (first | (go_at_call 311; ((with_reducible refine C1.out.mono ?_); rintro e w' ⟨rfl, rfl⟩)))
                    refine C2.out.mono ?_
                    rintro e w1 ⟨v1, rfl, hv1, hb1⟩
                    obtain ⟨A5, c5, rfl, r5⟩ := hv1.raw
                    have hpos := HR4.out.1.pb
                    have hle4 := HR4.out.2.1
                    have he4 := HB2.out
                    have HN := Hd (show Cm2 w w1 g A3 c3 a3 A5 c5 (b4 / 2) 30000 ∧ b4 / 2 ≤ b ∧ Below W.heap.size W w1 from ⟨HR4.out.1.halfb HB2.out r5 hb1, by omega, belowTo HR4.out.2.2 hb1⟩)
                    have HM := Hd (show b4 / 2 < b4 by omega)
                    clear hv1 hb1 r5 C1 C2 he4 hpos hle4
                    go_wp2_with fail
                    go_roundg (b4 / 2)
                    case measure => rw [HK4.out]; exact HM.out
                    case rel => exact ⟨A5, c5, b4 / 2, rfl, Hd rfl, HN⟩
                  · have ho4 : b4 % 2 = 1 := by omega
                    have C1 := Hd (ref_even_n A4 c4 b4 HR4.out.1.pb wr HR4.out.1.rb false (by simp [ho4]))
                    have C2 := Hd (ref_cmp_any A3 A4 c3 c4 (natL a3) (natL b4) (canon_natL _) (canon_natL _) wr HR4.out.1.ra HR4.out.1.rb)
                    have HO4 := Hd ho4
                    clear hb2 ho4
                    go_wp2_with (first | (go_at_call 311; ((with_reducible refine C1.out.mono ?_); rintro e w' ⟨rfl, rfl⟩)))
                    refine C2.out.mono ?_
                    rintro e w1 ⟨rfl, hb1⟩
                    obtain ⟨z, hze⟩ : ∃ z, z = cmpv (val (natL a3)) (val (natL b4)) := ⟨_, rfl⟩
                    rw [← hze]
                    have hz2 : a3 < b4 ↔ z < 0 := by
                      rw [hze, val_natL, val_natL]
                      unfold cmpv
                      split <;> (try split) <;> omega
                    have RA := Hd (HR4.out.1.ra.below hb1)
                    have RB := Hd (HR4.out.1.rb.below hb1)
                    have HL := Hd (belowTo HR4.out.1.low hb1)
                    have HW := Hd (belowTo HR4.out.2.2 hb1)
                    have hp4 := HR4.out.1.pb
                    have hl3' := HR4.out.1.la
                    have hle3 := HR3.out.2.2.1
                    have hle4 := HR4.out.2.1
                    have hpo3 := HR3.out.2.1
                    have HGC := Hd HR4.out.1.gcd
                    clear hze C1 C2 hb1
                    by_cases hlt : a3 < b4
                    · have hd : decide (z < 0) = true := by simp; omega
                      have C3 := ref_subN A4 A3 c4 c3 (natL b4) (natL a3) (natL_mono (Nat.le_of_lt hlt)) (by rw [val_natL, val_natL]; omega) (by omega) w1 RB.out RA.out
                      rw [val_natL, val_natL] at C3
                      have H3 := Hd C3
                      have HLT := Hd hlt
                      clear hz2 C3 hlt
                      go_wp2_with fail
                      refine H3.out.mono ?_
                      rintro e w2 ⟨v2, rfl, hv2, hb2⟩
                      obtain ⟨A6, c6, rfl, r6⟩ := hv2.raw
                      have hlt := HLT.out
                      have HN := Hd (show Cm2 w w2 g A6 c6 (b4 - a3) A3 c3 a3 30000 ∧ Below W.heap.size W w2 from ⟨⟨r6, RA.out.below hb2, belowTo HL.out hb2, hpo3, .inr HO3.out, by rw [gcd_less (Nat.le_of_lt hlt), Nat.gcd_comm]; exact HGC.out, Nat.le_trans (natL_mono (Nat.sub_le _ _)) hl4, hl3'⟩, belowTo HW.out hb2⟩)
                      have HM := Hd (show b4 - a3 + a3 < a + b by omega)
                      clear hv2 hb2 r6 H3 hlt
                      go_wp2_with fail
                      go_roundg (b4 - a3 + a3)
                      case measure => rw [HKA.out]; exact HM.out
                      case rel => exact ⟨A6, c6, b4 - a3, A3, c3, a3, rfl, rfl, Hd rfl, HN⟩
                    · have hd : decide (z < 0) = false := by simp; omega
                      have C3 := ref_subN A3 A4 c3 c4 (natL a3) (natL b4) (natL_mono (by omega)) (by rw [val_natL, val_natL]; omega) (by omega) w1 RA.out RB.out
                      rw [val_natL, val_natL] at C3
                      have H3 := Hd C3
                      have HLT := Hd hlt
                      clear hz2 C3 hlt
                      go_wp2_with fail
                      refine H3.out.mono ?_
                      rintro e w2 ⟨v2, rfl, hv2, hb2⟩
                      obtain ⟨A6, c6, rfl, r6⟩ := hv2.raw
                      have hlt := HLT.out
                      have HN := Hd (show Cm2 w w2 g A6 c6 (a3 - b4) A4 c4 b4 30000 ∧ Below W.heap.size W w2 from ⟨⟨r6, RB.out.below hb2, belowTo HL.out hb2, hp4, .inr HO4.out, by rw [gcd_less (by omega)]; exact HGC.out, Nat.le_trans (natL_mono (Nat.sub_le _ _)) hl3', hl4⟩, belowTo HW.out hb2⟩)
                      have HM := Hd (show a3 - b4 + b4 < a + b by omega)
                      clear hv2 hb2 r6 H3 hlt
                      go_wp2_with fail
                      go_roundg (a3 - b4 + b4)
                      case measure => rw [HKA.out]; exact HM.out
                      case rel => exact ⟨A6, c6, a3 - b4, A4, c4, b4, rfl, rfl, Hd rfl, HN⟩
end Go.Proofs.YthlehkjcfhnplaaGreatDoor
