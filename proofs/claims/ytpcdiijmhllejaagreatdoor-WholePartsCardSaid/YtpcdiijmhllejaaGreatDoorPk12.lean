/- Several texts in one: RefAdd. -/
import Derived.Test.YtpcdiijmhllejaaGreatDoorPk05
/- add and sub of the references: what they count. (Written by wip/exact/genrefadd.py.) -/
namespace Go.Proofs.YtpcdiijmhllejaaGreatDoor
open Go.RowKit

theorem OwnL.of_row {w : World} {base : Nat} {v : Value} {zs : List Nat} (hz : Limbs zs) (h : w.ownsRow base 60 1 v zs.length (cellsU zs)) : OwnL w base v (val zs) zs.length := by
  rcases h.2 with ⟨h1, h2⟩ | ⟨g, cap, cur, h1, h2, h3, h4, h5, h6⟩
  · have : zs = [] := by cases zs with
      | nil => rfl
      | cons a l => simp at h2
    subst this
    subst h1
    exact ⟨none, 0, [], rfl, hz, rfl, Nat.le_refl _, Nat.le_refl _, by omega, World.ownsRow_nil _ _ _ _⟩
  · subst h1
    exact ⟨_, cap, zs, rfl, hz, rfl, Nat.le_refl _, h4, by unfold maxLen at h5; omega, h⟩
/-- .. cut to what is not nought at the end. -/
theorem OwnL.cut {w : World} {base : Nat} {A : Option Addr} {c : Nat} {zs : List Nat} {L : Nat} (hz : Limbs zs) (hc : zs.length ≤ c) (hm : c ≤ 9223372036854775807) (h : w.ownsRow base 60 1 (.slice A zs.length c) zs.length (cellsU zs)) (hL : zs.length ≤ L) : OwnL w base (.slice A (natL (val zs)).length c) (val zs) L := by
  have hle := natL_val_le hz
  refine ⟨A, c, natL (val zs), rfl, limbs_natL _, val_natL _, by omega, by omega, hm, ?_⟩
  rw [natL_take hz, List.length_take, Nat.min_eq_left hle]
  rw [cellsU_take]
  refine ⟨?_, ?_⟩
  · rw [List.length_take, cellsU_length]; omega
  · rcases h.2 with ⟨h1, h2⟩ | ⟨g, cap, cur, h1, h2, h3, h4, h5, h6, h7⟩
    · injection h1 with a1 a2 a3
      have : (natL (val zs)).length = 0 := by omega
      rw [this, a1, a3]
      exact .inl ⟨rfl, rfl⟩
    · refine .inr ⟨g, cap, cur, by injection h1 with a1 a2 a3; rw [a1, a3], h2, h3, by omega, h5, h6, ?_⟩
      rw [← h7, List.take_take, Nat.mul_one, Nat.mul_one, Nat.min_eq_left hle]
theorem OwnL.longer {w : World} {base : Nat} {v : Value} {n L L' : Nat} (h : OwnL w base v n L) (hl : L ≤ L') : OwnL w base v n L' := by
  obtain ⟨A, c, zs, h1, h2, h3, h4, h5⟩ := h.form
  exact ⟨A, c, zs, h1, h2, h3, by omega, h5⟩

set_option maxRecDepth 100000 in
set_option maxHeartbeats 1000000 in
theorem ref_add (A B : Option Addr) (c d : Nat) (xs ys : List Nat) (hlx : xs.length ≤ 1073741824) (hly : ys.length ≤ 1073741824) (w : World) (h : Raw w A c xs) (g : Raw w B d ys) :
    Calls Tryz.prog 108 #[.slice A xs.length c, .slice B ys.length d] w (RetL w.heap.size w (val xs + val ys) (max xs.length ys.length + 1)) := by
  have HX := Lib.hid h
  have HY := Lib.hid g
  clear h g
  obtain ⟨i0, hi, hz0, hz1, hz2⟩ := info_parts limbInfo
  have H0 := Lib.hid (⟨[], rfl, by simp [Limbs], World.ownsRow_nil _ _ _ _, Below.refl _ _, rfl⟩ : ∃ zs, zs.length = 0 ∧ Limbs zs ∧ w.ownsRow w.heap.size 60 1 (.slice none 0 0) 0 (cellsU zs) ∧ Below w.heap.size w w ∧ val zs + 4294967296 ^ 0 * 0 = val (xs.take 0) + val (ys.take 0))
  go_enter Tryz.func108, Tryz.ntmps108
  go_wp2_with fail
  go_loopw [5, 6, 7] (fun v5 v6 v7 wr => ∃ i k : Nat, v7 = .int .i64 i ∧ v6 = .int .u64 k ∧ k ≤ 1 ∧ i ≤ max xs.length ys.length + 1 ∧ (i = max xs.length ys.length + 1 → k = 0) ∧ Hid (∃ zs, zs.length = i ∧ Limbs zs ∧ wr.ownsRow w.heap.size 60 1 v5 i (cellsU zs) ∧ Below w.heap.size w wr ∧ val zs + 4294967296 ^ i * k = val (xs.take i) + val (ys.take i))) (fun _ _ v7 _ => max xs.length ys.length + 1 - (intOf v7).toNat)
  case atStart => exact ⟨0, 0, rfl, rfl, by omega, Nat.zero_le _, fun _ => rfl, H0⟩
  case round =>
    obtain ⟨i, k, rfl, rfl, hk, hi', hk0, HR⟩ := hrel
    clear H0
    obtain ⟨zs, hzl, hz, hrow, hb, hv⟩ := HR.out
    have HV := Lib.hid hv
    have HZ := Lib.hid hz
    clear HR hv hz
    have hmax : max xs.length ys.length ≤ 1073741824 := by omega
    have step : ∀ x y : Nat, x = at0 xs i → y = at0 ys i → val (zs ++ [(x + y + k) % 4294967296]) + 4294967296 ^ (i + 1) * ((x + y + k) / 4294967296) = val (xs.take (i + 1)) + val (ys.take (i + 1)) := fun x y hx hy => by
      rw [add_step hzl (x + y + k) HV.out (x + y) rfl, val_take_at0 xs i, val_take_at0 ys i, ← hx, ← hy, Nat.mul_add]
      omega
    have hi2 : i ≤ 1073741825 := by omega
    by_cases hA : i < xs.length
    · by_cases hB : i < ys.length
      · have a1 : (i : Int) < (xs.length : Int) := by omega
        obtain ⟨ad, rfl, hbl, hx⟩ := (HX.out.below hb).reads.get hA
        have hbx := limbs_get HX.out.limbs hA
        have hxa := Lib.hid (at0_lt hA)
        generalize xs[i] = x at hx hbx hxa
        clear hbl
        have b1 : (i : Int) < (ys.length : Int) := by omega
        obtain ⟨bd, rfl, hbl, hy⟩ := (HY.out.below hb).reads.get hB
        have hby := limbs_get HY.out.limbs hB
        have hya := Lib.hid (at0_lt hB)
        generalize ys[i] = y at hy hby hya
        clear hbl
        have hs1 : ((k : Int) + (x : Int) + (y : Int)) % 4294967296 = (((x + y + k) % 4294967296 : Nat) : Int) := by omega
        have hs2 : ((k : Int) + (x : Int) + (y : Int)) / 4294967296 = (((x + y + k) / 4294967296 : Nat) : Int) := by omega
        have S := Lib.hid (step x y hxa.out.symm hya.out.symm)
        have hq : (x + y + k) / 4294967296 ≤ 1 := by omega
        have hend : i = max xs.length ys.length → (x + y + k) / 4294967296 = 0 := by intro h; omega
        have hd : (x + y + k) % 4294967296 < 4294967296 := Nat.mod_lt _ (by omega)
        generalize (x + y + k) / 4294967296 = cc at hs2 S hq hend
        generalize (x + y + k) % 4294967296 = dd at hs1 S hd
        have HE := Lib.hid hend
        have HK0 := Lib.hid hk0
        clear step hxa hya hend hk0 hmax
        skip
        go_wp2_with (at_builtin; refine wpList_append_any _ rfl (.tmp 48) (.tmp 52) _ rfl w.heap.size 60 i0 _ 1 4 Tryz.underlying22 hi hz0 hz1 hz2 rfl (by omega) _ i _ rfl (own_below hrow ((Below.refl _ _).alloc (Nat.le_refl _) _)) _ (some ⟨wr.heap.size, 0, none⟩) 1 1 [.int .u32 (dd : Int)] rfl (Reads.new1 wr _ 1 _ rfl) (by simp [Value.oneCell']) (by unfold maxLen; omega) (by omega) (by have := hb.size; simp; omega) ?_; intro v' w' ho' hg' hat')
        go_roundw
        case rel => exact ⟨i + 1, cc, by go_num, by rw [hs2], hq, by omega, fun h => HE.out (by omega), Lib.hid ⟨zs ++ [dd], by simp [hzl], limbs_snoc HZ.out hd, by rw [show cellsU (zs ++ [dd]) = cellsU zs ++ [.int .u32 ((dd : Int))] by simp [cellsU]]; exact ho', below_more (own_below hrow ((Below.refl _ _).alloc (Nat.le_refl _) _)) (hb.alloc hb.size _) (Nat.le_refl _) (by have := hb.size; simp; omega) hg', S.out⟩⟩
        case measure => simp [intOf]; omega
      · have a1 : (i : Int) < (xs.length : Int) := by omega
        obtain ⟨ad, rfl, hbl, hx⟩ := (HX.out.below hb).reads.get hA
        have hbx := limbs_get HX.out.limbs hA
        have hxa := Lib.hid (at0_lt hA)
        generalize xs[i] = x at hx hbx hxa
        clear hbl
        have b1 : (ys.length : Int) ≤ (i : Int) := by omega
        have hya := Lib.hid (at0_ge (xs := ys) (k := i) (by omega))
        have hs1 : ((k : Int) + (x : Int)) % 4294967296 = (((x + 0 + k) % 4294967296 : Nat) : Int) := by omega
        have hs2 : ((k : Int) + (x : Int)) / 4294967296 = (((x + 0 + k) / 4294967296 : Nat) : Int) := by omega
        have S := Lib.hid (step x 0 hxa.out.symm hya.out.symm)
        have hq : (x + 0 + k) / 4294967296 ≤ 1 := by omega
        have hend : i = max xs.length ys.length → (x + 0 + k) / 4294967296 = 0 := by intro h; omega
        have hd : (x + 0 + k) % 4294967296 < 4294967296 := Nat.mod_lt _ (by omega)
        generalize (x + 0 + k) / 4294967296 = cc at hs2 S hq hend
        generalize (x + 0 + k) % 4294967296 = dd at hs1 S hd
        have HE := Lib.hid hend
        have HK0 := Lib.hid hk0
        clear step hxa hya hend hk0 hmax
        skip
        go_wp2_with (at_builtin; refine wpList_append_any _ rfl (.tmp 48) (.tmp 52) _ rfl w.heap.size 60 i0 _ 1 4 Tryz.underlying22 hi hz0 hz1 hz2 rfl (by omega) _ i _ rfl (own_below hrow ((Below.refl _ _).alloc (Nat.le_refl _) _)) _ (some ⟨wr.heap.size, 0, none⟩) 1 1 [.int .u32 (dd : Int)] rfl (Reads.new1 wr _ 1 _ rfl) (by simp [Value.oneCell']) (by unfold maxLen; omega) (by omega) (by have := hb.size; simp; omega) ?_; intro v' w' ho' hg' hat')
        go_roundw
        case rel => exact ⟨i + 1, cc, by go_num, by rw [hs2], hq, by omega, fun h => HE.out (by omega), Lib.hid ⟨zs ++ [dd], by simp [hzl], limbs_snoc HZ.out hd, by rw [show cellsU (zs ++ [dd]) = cellsU zs ++ [.int .u32 ((dd : Int))] by simp [cellsU]]; exact ho', below_more (own_below hrow ((Below.refl _ _).alloc (Nat.le_refl _) _)) (hb.alloc hb.size _) (Nat.le_refl _) (by have := hb.size; simp; omega) hg', S.out⟩⟩
        case measure => simp [intOf]; omega
    · by_cases hB : i < ys.length
      · have a1 : (xs.length : Int) ≤ (i : Int) := by omega
        have hxa := Lib.hid (at0_ge (xs := xs) (k := i) (by omega))
        have b1 : (i : Int) < (ys.length : Int) := by omega
        obtain ⟨bd, rfl, hbl, hy⟩ := (HY.out.below hb).reads.get hB
        have hby := limbs_get HY.out.limbs hB
        have hya := Lib.hid (at0_lt hB)
        generalize ys[i] = y at hy hby hya
        clear hbl
        have hs1 : ((k : Int) + (y : Int)) % 4294967296 = (((0 + y + k) % 4294967296 : Nat) : Int) := by omega
        have hs2 : ((k : Int) + (y : Int)) / 4294967296 = (((0 + y + k) / 4294967296 : Nat) : Int) := by omega
        have S := Lib.hid (step 0 y hxa.out.symm hya.out.symm)
        have hq : (0 + y + k) / 4294967296 ≤ 1 := by omega
        have hend : i = max xs.length ys.length → (0 + y + k) / 4294967296 = 0 := by intro h; omega
        have hd : (0 + y + k) % 4294967296 < 4294967296 := Nat.mod_lt _ (by omega)
        generalize (0 + y + k) / 4294967296 = cc at hs2 S hq hend
        generalize (0 + y + k) % 4294967296 = dd at hs1 S hd
        have HE := Lib.hid hend
        have HK0 := Lib.hid hk0
        clear step hxa hya hend hk0 hmax
        skip
        go_wp2_with (at_builtin; refine wpList_append_any _ rfl (.tmp 48) (.tmp 52) _ rfl w.heap.size 60 i0 _ 1 4 Tryz.underlying22 hi hz0 hz1 hz2 rfl (by omega) _ i _ rfl (own_below hrow ((Below.refl _ _).alloc (Nat.le_refl _) _)) _ (some ⟨wr.heap.size, 0, none⟩) 1 1 [.int .u32 (dd : Int)] rfl (Reads.new1 wr _ 1 _ rfl) (by simp [Value.oneCell']) (by unfold maxLen; omega) (by omega) (by have := hb.size; simp; omega) ?_; intro v' w' ho' hg' hat')
        go_roundw
        case rel => exact ⟨i + 1, cc, by go_num, by rw [hs2], hq, by omega, fun h => HE.out (by omega), Lib.hid ⟨zs ++ [dd], by simp [hzl], limbs_snoc HZ.out hd, by rw [show cellsU (zs ++ [dd]) = cellsU zs ++ [.int .u32 ((dd : Int))] by simp [cellsU]]; exact ho', below_more (own_below hrow ((Below.refl _ _).alloc (Nat.le_refl _) _)) (hb.alloc hb.size _) (Nat.le_refl _) (by have := hb.size; simp; omega) hg', S.out⟩⟩
        case measure => simp [intOf]; omega
      · rcases (by omega : k = 0 ∨ k = 1) with rfl | rfl
        · have a1 : (xs.length : Int) ≤ (i : Int) := by omega
          have b1 : (ys.length : Int) ≤ (i : Int) := by omega
          have hval := HV.out
          rw [val_take_all (xs := xs) (k := i) (by omega), val_take_all (xs := ys) (k := i) (by omega)] at hval
          have hown := OwnL.of_row HZ.out (by rw [hzl]; exact hrow)
          have hval2 : val zs = val xs + val ys := by omega
          rw [hval2, hzl] at hown
          have HO := Lib.hid (hown.longer hi')
          have HB := Lib.hid hb
          clear hown hval hval2 step hrow hb hmax
          go_wp2_with fail
          go_ret
          exact ⟨_, rfl, HO.out, HB.out⟩
        · have hi3 : i ≤ max xs.length ys.length := by omega
          have a1 : (xs.length : Int) ≤ (i : Int) := by omega
          have hxa := Lib.hid (at0_ge (xs := xs) (k := i) (by omega))
          have b1 : (ys.length : Int) ≤ (i : Int) := by omega
          have hya := Lib.hid (at0_ge (xs := ys) (k := i) (by omega))
          have hs1 : (((1 : Nat) : Int)) % 4294967296 = (((0 + 0 + 1) % 4294967296 : Nat) : Int) := by omega
          have hs2 : (((1 : Nat) : Int)) / 4294967296 = (((0 + 0 + 1) / 4294967296 : Nat) : Int) := by omega
          have S := Lib.hid (step 0 0 hxa.out.symm hya.out.symm)
          have hq : (0 + 0 + 1) / 4294967296 ≤ 1 := by omega
          have hend : i = max xs.length ys.length → (0 + 0 + 1) / 4294967296 = 0 := by intro h; omega
          have hd : (0 + 0 + 1) % 4294967296 < 4294967296 := Nat.mod_lt _ (by omega)
          obtain ⟨dd, hdd⟩ : ∃ n : Nat, n = 1 := ⟨1, rfl⟩
          obtain ⟨cc, hcc⟩ : ∃ n : Nat, n = 0 := ⟨0, rfl⟩
          simp only [show (0 + 0 + 1) % 4294967296 = dd by omega, show (0 + 0 + 1) / 4294967296 = cc by omega] at S hq hend hd
          subst hdd hcc
          clear hs1 hs2
          have HE := Lib.hid hend
          have HK0 := Lib.hid hk0
          clear step hxa hya hend hk0 hmax
          skip
          go_wp2_with (at_builtin; refine wpList_append_any _ rfl (.tmp 48) (.tmp 52) _ rfl w.heap.size 60 i0 _ 1 4 Tryz.underlying22 hi hz0 hz1 hz2 rfl (by omega) _ i _ rfl (own_below hrow ((Below.refl _ _).alloc (Nat.le_refl _) _)) _ (some ⟨wr.heap.size, 0, none⟩) 1 1 [.int .u32 (1 : Int)] rfl (Reads.new1 wr _ 1 _ rfl) (by simp [Value.oneCell']) (by unfold maxLen; omega) (by omega) (by have := hb.size; simp; omega) ?_; intro v' w' ho' hg' hat')
          go_roundw
          case rel => exact ⟨i + 1, 0, by go_num, rfl, hq, by omega, fun h => HE.out (by omega), Lib.hid ⟨zs ++ [1], by simp [hzl], limbs_snoc HZ.out hd, by rw [show cellsU (zs ++ [1]) = cellsU zs ++ [.int .u32 (1)] by simp [cellsU]]; exact ho', below_more (own_below hrow ((Below.refl _ _).alloc (Nat.le_refl _) _)) (hb.alloc hb.size _) (Nat.le_refl _) (by have := hb.size; simp; omega) hg', S.out⟩⟩
          case measure => simp [intOf]; omega

set_option maxRecDepth 100000 in
set_option maxHeartbeats 1000000 in
theorem ref_subN (A B : Option Addr) (c d : Nat) (xs ys : List Nat) (hle : ys.length ≤ xs.length) (hvl : val ys ≤ val xs) (hl : xs.length ≤ 1073741824) (w : World) (h : Raw w A c xs) (g : Raw w B d ys) :
    Calls Tryz.prog 110 #[.slice A xs.length c, .slice B ys.length d] w (RetN w.heap.size w (val xs - val ys)) := by
  have HX := Lib.hid h
  have HY := Lib.hid g
  have HVL := Lib.hid hvl
  clear h g hvl
  obtain ⟨i0, hi, hz0, hz1, hz2⟩ := info_parts limbInfo
  have H0 := Lib.hid (⟨[], rfl, by simp [Limbs], World.ownsRow_nil _ _ _ _, Below.refl _ _, rfl⟩ : ∃ zs, zs.length = 0 ∧ Limbs zs ∧ w.ownsRow w.heap.size 60 1 (.slice none 0 0) 0 (cellsU zs) ∧ Below w.heap.size w w ∧ val zs + val (ys.take 0) = val (xs.take 0) + 4294967296 ^ 0 * 0)
  go_enter Tryz.func110, Tryz.ntmps110
  go_wp2_with fail
  go_loopw [5, 6, 7] (fun v5 v6 v7 wr => ∃ i k : Nat, v7 = .int .i64 i ∧ v6 = .int .u64 k ∧ k ≤ 1 ∧ i ≤ xs.length ∧ Hid (∃ zs, zs.length = i ∧ Limbs zs ∧ wr.ownsRow w.heap.size 60 1 v5 i (cellsU zs) ∧ Below w.heap.size w wr ∧ val zs + val (ys.take i) = val (xs.take i) + 4294967296 ^ i * k)) (fun _ _ v7 _ => xs.length - (intOf v7).toNat)
  case atStart => exact ⟨0, 0, rfl, rfl, by omega, Nat.zero_le _, H0⟩
  case round =>
    obtain ⟨i, k, rfl, rfl, hk, hi', HR⟩ := hrel
    clear H0
    obtain ⟨zs, hzl, hz, hrow, hb, hv⟩ := HR.out
    have HV := Lib.hid hv
    have HZ := Lib.hid hz
    clear HR hv hz
    by_cases hA : i < xs.length
    · have hi2 : i ≤ 1073741825 := by omega
      have a1 : (i : Int) < (xs.length : Int) := by omega
      obtain ⟨ad, rfl, hbl, hx⟩ := (HX.out.below hb).reads.get hA
      have hbx := limbs_get HX.out.limbs hA
      have step : ∀ y dd cc : Nat, y = at0 ys i → dd + y + k = xs[i] + 4294967296 * cc → val (zs ++ [dd]) + val (ys.take (i + 1)) = val (xs.take (i + 1)) + 4294967296 ^ (i + 1) * cc := fun y dd cc hy hcc => by
        rw [val_take_more hA, val_take_at0 ys i, ← hy, sub_step hzl HV.out xs[i] y dd cc hcc]
      generalize xs[i] = x at hx hbx step
      clear hbl
      by_cases hB : i < ys.length
      · obtain ⟨bd, rfl, hbl, hy⟩ := (HY.out.below hb).reads.get hB
        have hby := limbs_get HY.out.limbs hB
        have hya := Lib.hid (at0_lt hB)
        generalize ys[i] = y at hy hby hya
        clear hbl
        by_cases hlt : x < k + y
        · have b1 : (i : Int) < (ys.length : Int) := by omega
          have hlt2 : (x : Int) < (k : Int) + (y : Int) := by omega
          obtain ⟨dd, hdd⟩ : ∃ dd : Nat, dd = x + 4294967296 - k - y := ⟨_, rfl⟩
          have hd : dd < 4294967296 := by omega
          have hs1 : (x : Int) + 4294967296 - ((k : Int) + (y : Int)) = (dd : Int) := by omega
          have S := Lib.hid (step y dd 1 hya.out.symm (by omega))
          clear step hdd
          go_wp2_with (at_builtin; refine wpList_append_any _ rfl (.tmp 38) (.tmp 43) _ rfl w.heap.size 60 i0 _ 1 4 Tryz.underlying22 hi hz0 hz1 hz2 rfl (by omega) _ i _ rfl (own_below hrow ((Below.refl _ _).alloc (Nat.le_refl _) _)) _ (some ⟨wr.heap.size, 0, none⟩) 1 1 [.int .u32 (dd : Int)] rfl (Reads.new1 wr _ 1 _ rfl) (by simp [Value.oneCell']) (by unfold maxLen; omega) (by omega) (by have := hb.size; simp; omega) ?_; intro v' w' ho' hg' hat')
          go_roundw
          case rel => exact ⟨i + 1, 1, by go_num, rfl, by omega, by omega, Lib.hid ⟨zs ++ [dd], by simp [hzl], limbs_snoc HZ.out hd, by rw [show cellsU (zs ++ [dd]) = cellsU zs ++ [.int .u32 (dd : Int)] by simp [cellsU]]; exact ho', below_more (own_below hrow ((Below.refl _ _).alloc (Nat.le_refl _) _)) (hb.alloc hb.size _) (Nat.le_refl _) (by have := hb.size; simp; omega) hg', S.out⟩⟩
          case measure => simp [intOf]; omega
        · have b1 : (i : Int) < (ys.length : Int) := by omega
          have hlt2 : (k : Int) + (y : Int) ≤ (x : Int) := by omega
          obtain ⟨dd, hdd⟩ : ∃ dd : Nat, dd = x - k - y := ⟨_, rfl⟩
          have hd : dd < 4294967296 := by omega
          have hs1 : (x : Int) - ((k : Int) + (y : Int)) = (dd : Int) := by omega
          have S := Lib.hid (step y dd 0 hya.out.symm (by omega))
          clear step hdd
          go_wp2_with (at_builtin; refine wpList_append_any _ rfl (.tmp 38) (.tmp 43) _ rfl w.heap.size 60 i0 _ 1 4 Tryz.underlying22 hi hz0 hz1 hz2 rfl (by omega) _ i _ rfl (own_below hrow ((Below.refl _ _).alloc (Nat.le_refl _) _)) _ (some ⟨wr.heap.size, 0, none⟩) 1 1 [.int .u32 (dd : Int)] rfl (Reads.new1 wr _ 1 _ rfl) (by simp [Value.oneCell']) (by unfold maxLen; omega) (by omega) (by have := hb.size; simp; omega) ?_; intro v' w' ho' hg' hat')
          go_roundw
          case rel => exact ⟨i + 1, 0, by go_num, rfl, by omega, by omega, Lib.hid ⟨zs ++ [dd], by simp [hzl], limbs_snoc HZ.out hd, by rw [show cellsU (zs ++ [dd]) = cellsU zs ++ [.int .u32 (dd : Int)] by simp [cellsU]]; exact ho', below_more (own_below hrow ((Below.refl _ _).alloc (Nat.le_refl _) _)) (hb.alloc hb.size _) (Nat.le_refl _) (by have := hb.size; simp; omega) hg', S.out⟩⟩
          case measure => simp [intOf]; omega
      · by_cases hlt : x < k
        · have b1 : (ys.length : Int) ≤ (i : Int) := by omega
          have hlt2 : (x : Int) < (k : Int) := by omega
          obtain ⟨dd, hdd⟩ : ∃ dd : Nat, dd = x + 4294967296 - k - 0 := ⟨_, rfl⟩
          have hd : dd < 4294967296 := by omega
          have hs1 : (x : Int) + 4294967296 - (k : Int) = (dd : Int) := by omega
          have S := Lib.hid (step 0 dd 1 (at0_ge (by omega)).symm (by omega))
          clear step hdd
          go_wp2_with (at_builtin; refine wpList_append_any _ rfl (.tmp 38) (.tmp 43) _ rfl w.heap.size 60 i0 _ 1 4 Tryz.underlying22 hi hz0 hz1 hz2 rfl (by omega) _ i _ rfl (own_below hrow ((Below.refl _ _).alloc (Nat.le_refl _) _)) _ (some ⟨wr.heap.size, 0, none⟩) 1 1 [.int .u32 (dd : Int)] rfl (Reads.new1 wr _ 1 _ rfl) (by simp [Value.oneCell']) (by unfold maxLen; omega) (by omega) (by have := hb.size; simp; omega) ?_; intro v' w' ho' hg' hat')
          go_roundw
          case rel => exact ⟨i + 1, 1, by go_num, rfl, by omega, by omega, Lib.hid ⟨zs ++ [dd], by simp [hzl], limbs_snoc HZ.out hd, by rw [show cellsU (zs ++ [dd]) = cellsU zs ++ [.int .u32 (dd : Int)] by simp [cellsU]]; exact ho', below_more (own_below hrow ((Below.refl _ _).alloc (Nat.le_refl _) _)) (hb.alloc hb.size _) (Nat.le_refl _) (by have := hb.size; simp; omega) hg', S.out⟩⟩
          case measure => simp [intOf]; omega
        · have b1 : (ys.length : Int) ≤ (i : Int) := by omega
          have hlt2 : (k : Int) ≤ (x : Int) := by omega
          obtain ⟨dd, hdd⟩ : ∃ dd : Nat, dd = x - k - 0 := ⟨_, rfl⟩
          have hd : dd < 4294967296 := by omega
          have hs1 : (x : Int) - (k : Int) = (dd : Int) := by omega
          have S := Lib.hid (step 0 dd 0 (at0_ge (by omega)).symm (by omega))
          clear step hdd
          go_wp2_with (at_builtin; refine wpList_append_any _ rfl (.tmp 38) (.tmp 43) _ rfl w.heap.size 60 i0 _ 1 4 Tryz.underlying22 hi hz0 hz1 hz2 rfl (by omega) _ i _ rfl (own_below hrow ((Below.refl _ _).alloc (Nat.le_refl _) _)) _ (some ⟨wr.heap.size, 0, none⟩) 1 1 [.int .u32 (dd : Int)] rfl (Reads.new1 wr _ 1 _ rfl) (by simp [Value.oneCell']) (by unfold maxLen; omega) (by omega) (by have := hb.size; simp; omega) ?_; intro v' w' ho' hg' hat')
          go_roundw
          case rel => exact ⟨i + 1, 0, by go_num, rfl, by omega, by omega, Lib.hid ⟨zs ++ [dd], by simp [hzl], limbs_snoc HZ.out hd, by rw [show cellsU (zs ++ [dd]) = cellsU zs ++ [.int .u32 (dd : Int)] by simp [cellsU]]; exact ho', below_more (own_below hrow ((Below.refl _ _).alloc (Nat.le_refl _) _)) (hb.alloc hb.size _) (Nat.le_refl _) (by have := hb.size; simp; omega) hg', S.out⟩⟩
          case measure => simp [intOf]; omega
    · obtain rfl : i = xs.length := by omega
      have hval : val zs = val xs - val ys := by
        have e2 := HV.out
        rw [val_take_all (xs := xs) (k := xs.length) (Nat.le_refl _), val_take_all (xs := ys) (k := xs.length) (by omega)] at e2
        have e3 := val_lt HZ.out
        rw [hzl] at e3
        have e4 := HVL.out
        rcases (by omega : k = 0 ∨ k = 1) with rfl | rfl
        · omega
        · generalize 4294967296 ^ xs.length = P at *
          omega
      obtain ⟨A1, c1, zs', he, hl1, hl2, hl3, hl4, hl5, hl6⟩ := (OwnL.of_row HZ.out (by rw [hzl]; exact hrow)).form
      have hraw : Raw wr A1 c1 zs' := ⟨hl1, hl4, hl5, Reads.of_own hl6⟩
      have hraw2 := fun V (e : V = wr) => ref_trim A1 c1 zs' hl1 hl4 hl5 V.heap.size V (e ▸ hraw.reads)
      have C := Lib.hid (hraw2 wr rfl)
      subst he
      have hown := OwnL.cut hl1 hl4 hl5 hl6 (L := xs.length) (by omega)
      rw [hl2, hval] at hown
      have HO := Lib.hid hown
      have HB := Lib.hid hb
      have hz2' := hl2
      rw [hval] at hz2'
      have HZ2 := Lib.hid hz2'
      clear hown hval hz2' HV HZ HX HY hrow hb hraw hraw2 hl1 hl2 hl6
      go_wp2_with (first | (go_at_call 168; with_reducible refine C.out.mono ?_; rintro e w' ⟨rfl, rfl⟩))
      go_ret
      exact ⟨_, rfl, by rw [HZ2.out]; exact OwnN.of_ownL HO.out, HB.out⟩
theorem ref_sub (A B : Option Addr) (c d : Nat) (xs ys : List Nat) (hle : ys.length ≤ xs.length) (hvl : val ys ≤ val xs) (hl : xs.length ≤ 1073741824) (w : World) (h : Raw w A c xs) (g : Raw w B d ys) :
    Calls Tryz.prog 110 #[.slice A xs.length c, .slice B ys.length d] w (RetL w.heap.size w (val xs - val ys) xs.length) :=
  (ref_subN A B c d xs ys hle hvl hl w h g).mono fun _ _ hr => hr.toL (natL_length_le.2 (Nat.lt_of_le_of_lt (Nat.sub_le _ _) (val_lt h.limbs)))
end Go.Proofs.YtpcdiijmhllejaaGreatDoor
