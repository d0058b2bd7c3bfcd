/- Several texts in one: RefAdd, Front. -/
import Derived.Test.YtbdliabfdplohaaDoorBt07
import Derived.Test.YtbdliabfdplohaaDoorBtHd
import Derived.BigQuiet
set_option maxRecDepth 100000
set_option maxHeartbeats 8000000
/- add and sub of the references: what they count. (Written by wip/exact/genrefadd.py.) -/
namespace Go.Proofs.YtbdliabfdplohaaDoor
open Go.RowKit

theorem OwnL.of_row {w : World} {base : Nat} {v : Value} {zs : List Nat} (hz : Limbs zs) (h : w.ownsRow base 40 1 v zs.length (cellsU zs)) : OwnL w base v (val zs) zs.length := by
  rcases h.2 with ⟨h1, h2⟩ | ⟨g, cap, cur, h1, h2, h3, h4, h5, h6⟩
  · have : zs = [] := by cases zs with
      | nil => rfl
      | cons a l => simp at h2
    subst this
    subst h1
    exact ⟨none, 0, [], rfl, hz, rfl, Nat.le_refl _, Nat.le_refl _, by omega, World.ownsRow_nil _ _ _ _⟩
  · subst h1
    exact ⟨_, cap, zs, rfl, hz, rfl, Nat.le_refl _, h4, by unfold maxLen at h5; omega, h⟩
theorem OwnL.cut {w : World} {base : Nat} {A : Option Addr} {c : Nat} {zs : List Nat} {L : Nat} (hz : Limbs zs) (hc : zs.length ≤ c) (hm : c ≤ 9223372036854775807) (h : w.ownsRow base 40 1 (.slice A zs.length c) zs.length (cellsU zs)) (hL : zs.length ≤ L) : OwnL w base (.slice A (natL (val zs)).length c) (val zs) L := by
  have hle := natL_val_le hz
  refine ⟨A, c, natL (val zs), rfl, limbs_natL _, val_natL _, by omega, by omega, hm, ?_⟩
  rw [natL_take hz, List.length_take, Nat.min_eq_left hle]
  rw [cellsU_take]
  refine ⟨?_, ?_⟩
  · rw [List.length_take, cellsU_length]; omega
  · rcases h.2 with ⟨h1, h2⟩ | ⟨g, cap, cur, h1, h2, h3, h4, h5, h6, h7⟩
    · injection h1 with a1 a2 a3
      have : (natL (val zs)).length = 0 := by omega
      rw [this, a1, a3]
      exact .inl ⟨rfl, rfl⟩
    · refine .inr ⟨g, cap, cur, by injection h1 with a1 a2 a3; rw [a1, a3], h2, h3, by omega, h5, h6, ?_⟩
      rw [← h7, List.take_take, Nat.mul_one, Nat.mul_one, Nat.min_eq_left hle]
theorem OwnL.longer {w : World} {base : Nat} {v : Value} {n L L' : Nat} (h : OwnL w base v n L) (hl : L ≤ L') : OwnL w base v n L' := by
  obtain ⟨A, c, zs, h1, h2, h3, h4, h5⟩ := h.form
  exact ⟨A, c, zs, h1, h2, h3, by omega, h5⟩

theorem ref_add (A B : Option Addr) (c d : Nat) (xs ys : List Nat) (hlx : xs.length ≤ 1073741824) (hly : ys.length ≤ 1073741824) (w : World) (h : Raw w A c xs) (g : Raw w B d ys) :
    Calls Tryd.prog 43 #[.slice A xs.length c, .slice B ys.length d] w (RetL w.heap.size w (val xs + val ys) (max xs.length ys.length + 1)) := by
  have HX := Hd h
  have HY := Hd g
  clear h g
  obtain ⟨i0, hi, hz0, hz1, hz2⟩ := info_parts limbInfo
  have H0 := Hd (⟨[], rfl, by simp [Limbs], World.ownsRow_nil _ _ _ _, Below.refl _ _, rfl⟩ : ∃ zs, zs.length = 0 ∧ Limbs zs ∧ w.ownsRow w.heap.size 40 1 (.slice none 0 0) 0 (cellsU zs) ∧ Below w.heap.size w w ∧ val zs + 4294967296 ^ 0 * 0 = val (xs.take 0) + val (ys.take 0))
  go_enter Tryd.func43, Tryd.ntmps43
  go_wp2_with fail
  go_loopw [5, 6, 7] (fun v5 v6 v7 wr => ∃ i k : Nat, v7 = .int .i64 i ∧ v6 = .int .u64 k ∧ k ≤ 1 ∧ i ≤ max xs.length ys.length + 1 ∧ (i = max xs.length ys.length + 1 → k = 0) ∧ Hid (∃ zs, zs.length = i ∧ Limbs zs ∧ wr.ownsRow w.heap.size 40 1 v5 i (cellsU zs) ∧ Below w.heap.size w wr ∧ val zs + 4294967296 ^ i * k = val (xs.take i) + val (ys.take i))) (fun _ _ v7 _ => max xs.length ys.length + 1 - (intOf v7).toNat)
  case atStart => exact ⟨0, 0, rfl, rfl, by omega, Nat.zero_le _, fun _ => rfl, H0⟩
  case round =>
    obtain ⟨i, k, rfl, rfl, hk, hi', hk0, HR⟩ := hrel
    clear H0
    obtain ⟨zs, hzl, hz, hrow, hb, hv⟩ := HR.out
    have HV := Hd hv
    have HZ := Hd hz
    clear HR hv hz
    have hmax : max xs.length ys.length ≤ 1073741824 := by omega
    have step : ∀ x y : Nat, x = at0 xs i → y = at0 ys i → val (zs ++ [(x + y + k) % 4294967296]) + 4294967296 ^ (i + 1) * ((x + y + k) / 4294967296) = val (xs.take (i + 1)) + val (ys.take (i + 1)) := fun x y hx hy => by
      rw [add_step hzl (x + y + k) HV.out (x + y) rfl, val_take_at0 xs i, val_take_at0 ys i, ← hx, ← hy, Nat.mul_add]
      omega
    have hi2 : i ≤ 1073741825 := by omega
    by_cases hA : i < xs.length
    · by_cases hB : i < ys.length
      · have a1 : (i : Int) < (xs.length : Int) := by omega
        obtain ⟨ad, rfl, hbl, hx⟩ := (HX.out.below hb).reads.get hA
        have hbx := limbs_get HX.out.limbs hA
        have hxa := Hd (at0_lt hA)
        generalize xs[i] = x at hx hbx hxa
        clear hbl
        have b1 : (i : Int) < (ys.length : Int) := by omega
        obtain ⟨bd, rfl, hbl, hy⟩ := (HY.out.below hb).reads.get hB
        have hby := limbs_get HY.out.limbs hB
        have hya := Hd (at0_lt hB)
        generalize ys[i] = y at hy hby hya
        clear hbl
        have hs1 : ((k : Int) + (x : Int) + (y : Int)) % 4294967296 = (((x + y + k) % 4294967296 : Nat) : Int) := by omega
        have hs2 : ((k : Int) + (x : Int) + (y : Int)) / 4294967296 = (((x + y + k) / 4294967296 : Nat) : Int) := by omega
        have S := Hd (step x y hxa.out.symm hya.out.symm)
        have hq : (x + y + k) / 4294967296 ≤ 1 := by omega
        have hend : i = max xs.length ys.length → (x + y + k) / 4294967296 = 0 := by intro h; omega
        have hd : (x + y + k) % 4294967296 < 4294967296 := Nat.mod_lt _ (by omega)
        generalize (x + y + k) / 4294967296 = cc at hs2 S hq hend
        generalize (x + y + k) % 4294967296 = dd at hs1 S hd
        have HE := Hd hend
        have HK0 := Hd hk0
        clear step hxa hya hend hk0 hmax
        skip
        go_wp2_with (at_builtin; refine wpList_append_any _ rfl (.tmp 48) (.tmp 52) _ rfl w.heap.size 40 i0 _ 1 4 Tryd.underlying22 hi hz0 hz1 hz2 rfl (by omega) _ i _ rfl (own_below hrow ((Below.refl _ _).alloc (Nat.le_refl _) _)) _ (some ⟨wr.heap.size, 0, none⟩) 1 1 [.int .u32 (dd : Int)] rfl (Reads.new1 wr _ 1 _ rfl) (by simp [Value.oneCell']) (by unfold maxLen; omega) (by omega) (by have := hb.size; simp; omega) ?_; intro v' w' ho' hg' hat')
        go_roundw
        case rel => exact ⟨i + 1, cc, by go_num, by rw [hs2], hq, by omega, fun h => HE.out (by omega), Hd ⟨zs ++ [dd], by simp [hzl], limbs_snoc HZ.out hd, by rw [show cellsU (zs ++ [dd]) = cellsU zs ++ [.int .u32 ((dd : Int))] by simp [cellsU]]; exact ho', below_more (own_below hrow ((Below.refl _ _).alloc (Nat.le_refl _) _)) (hb.alloc hb.size _) (Nat.le_refl _) (by have := hb.size; simp; omega) hg', S.out⟩⟩
        case measure => simp [intOf]; omega
      · have a1 : (i : Int) < (xs.length : Int) := by omega
        obtain ⟨ad, rfl, hbl, hx⟩ := (HX.out.below hb).reads.get hA
        have hbx := limbs_get HX.out.limbs hA
        have hxa := Hd (at0_lt hA)
        generalize xs[i] = x at hx hbx hxa
        clear hbl
        have b1 : (ys.length : Int) ≤ (i : Int) := by omega
        have hya := Hd (at0_ge (xs := ys) (k := i) (by omega))
        have hs1 : ((k : Int) + (x : Int)) % 4294967296 = (((x + 0 + k) % 4294967296 : Nat) : Int) := by omega
        have hs2 : ((k : Int) + (x : Int)) / 4294967296 = (((x + 0 + k) / 4294967296 : Nat) : Int) := by omega
        have S := Hd (step x 0 hxa.out.symm hya.out.symm)
        have hq : (x + 0 + k) / 4294967296 ≤ 1 := by omega
        have hend : i = max xs.length ys.length → (x + 0 + k) / 4294967296 = 0 := by intro h; omega
        have hd : (x + 0 + k) % 4294967296 < 4294967296 := Nat.mod_lt _ (by omega)
        generalize (x + 0 + k) / 4294967296 = cc at hs2 S hq hend
        generalize (x + 0 + k) % 4294967296 = dd at hs1 S hd
        have HE := Hd hend
        have HK0 := Hd hk0
        clear step hxa hya hend hk0 hmax
        skip
        go_wp2_with (at_builtin; refine wpList_append_any _ rfl (.tmp 48) (.tmp 52) _ rfl w.heap.size 40 i0 _ 1 4 Tryd.underlying22 hi hz0 hz1 hz2 rfl (by omega) _ i _ rfl (own_below hrow ((Below.refl _ _).alloc (Nat.le_refl _) _)) _ (some ⟨wr.heap.size, 0, none⟩) 1 1 [.int .u32 (dd : Int)] rfl (Reads.new1 wr _ 1 _ rfl) (by simp [Value.oneCell']) (by unfold maxLen; omega) (by omega) (by have := hb.size; simp; omega) ?_; intro v' w' ho' hg' hat')
        go_roundw
        case rel => exact ⟨i + 1, cc, by go_num, by rw [hs2], hq, by omega, fun h => HE.out (by omega), Hd ⟨zs ++ [dd], by simp [hzl], limbs_snoc HZ.out hd, by rw [show cellsU (zs ++ [dd]) = cellsU zs ++ [.int .u32 ((dd : Int))] by simp [cellsU]]; exact ho', below_more (own_below hrow ((Below.refl _ _).alloc (Nat.le_refl _) _)) (hb.alloc hb.size _) (Nat.le_refl _) (by have := hb.size; simp; omega) hg', S.out⟩⟩
        case measure => simp [intOf]; omega
    · by_cases hB : i < ys.length
      · have a1 : (xs.length : Int) ≤ (i : Int) := by omega
        have hxa := Hd (at0_ge (xs := xs) (k := i) (by omega))
        have b1 : (i : Int) < (ys.length : Int) := by omega
        obtain ⟨bd, rfl, hbl, hy⟩ := (HY.out.below hb).reads.get hB
        have hby := limbs_get HY.out.limbs hB
        have hya := Hd (at0_lt hB)
        generalize ys[i] = y at hy hby hya
        clear hbl
        have hs1 : ((k : Int) + (y : Int)) % 4294967296 = (((0 + y + k) % 4294967296 : Nat) : Int) := by omega
        have hs2 : ((k : Int) + (y : Int)) / 4294967296 = (((0 + y + k) / 4294967296 : Nat) : Int) := by omega
        have S := Hd (step 0 y hxa.out.symm hya.out.symm)
        have hq : (0 + y + k) / 4294967296 ≤ 1 := by omega
        have hend : i = max xs.length ys.length → (0 + y + k) / 4294967296 = 0 := by intro h; omega
        have hd : (0 + y + k) % 4294967296 < 4294967296 := Nat.mod_lt _ (by omega)
        generalize (0 + y + k) / 4294967296 = cc at hs2 S hq hend
        generalize (0 + y + k) % 4294967296 = dd at hs1 S hd
        have HE := Hd hend
        have HK0 := Hd hk0
        clear step hxa hya hend hk0 hmax
        skip
        go_wp2_with (at_builtin; refine wpList_append_any _ rfl (.tmp 48) (.tmp 52) _ rfl w.heap.size 40 i0 _ 1 4 Tryd.underlying22 hi hz0 hz1 hz2 rfl (by omega) _ i _ rfl (own_below hrow ((Below.refl _ _).alloc (Nat.le_refl _) _)) _ (some ⟨wr.heap.size, 0, none⟩) 1 1 [.int .u32 (dd : Int)] rfl (Reads.new1 wr _ 1 _ rfl) (by simp [Value.oneCell']) (by unfold maxLen; omega) (by omega) (by have := hb.size; simp; omega) ?_; intro v' w' ho' hg' hat')
        go_roundw
        case rel => exact ⟨i + 1, cc, by go_num, by rw [hs2], hq, by omega, fun h => HE.out (by omega), Hd ⟨zs ++ [dd], by simp [hzl], limbs_snoc HZ.out hd, by rw [show cellsU (zs ++ [dd]) = cellsU zs ++ [.int .u32 ((dd : Int))] by simp [cellsU]]; exact ho', below_more (own_below hrow ((Below.refl _ _).alloc (Nat.le_refl _) _)) (hb.alloc hb.size _) (Nat.le_refl _) (by have := hb.size; simp; omega) hg', S.out⟩⟩
        case measure => simp [intOf]; omega
      · rcases (by omega : k = 0 ∨ k = 1) with rfl | rfl
        · have a1 : (xs.length : Int) ≤ (i : Int) := by omega
          have b1 : (ys.length : Int) ≤ (i : Int) := by omega
          have hval := HV.out
          rw [val_take_all (xs := xs) (k := i) (by omega), val_take_all (xs := ys) (k := i) (by omega)] at hval
          have hown := OwnL.of_row HZ.out (by rw [hzl]; exact hrow)
          have hval2 : val zs = val xs + val ys := by omega
          rw [hval2, hzl] at hown
          have HO := Hd (hown.longer hi')
          have HB := Hd hb
          clear hown hval hval2 step hrow hb hmax
          go_wp2_with fail
          go_ret
          exact ⟨_, rfl, HO.out, HB.out⟩
        · have hi3 : i ≤ max xs.length ys.length := by omega
          have a1 : (xs.length : Int) ≤ (i : Int) := by omega
          have hxa := Hd (at0_ge (xs := xs) (k := i) (by omega))
          have b1 : (ys.length : Int) ≤ (i : Int) := by omega
          have hya := Hd (at0_ge (xs := ys) (k := i) (by omega))
          have hs1 : (((1 : Nat) : Int)) % 4294967296 = (((0 + 0 + 1) % 4294967296 : Nat) : Int) := by omega
          have hs2 : (((1 : Nat) : Int)) / 4294967296 = (((0 + 0 + 1) / 4294967296 : Nat) : Int) := by omega
          have S := Hd (step 0 0 hxa.out.symm hya.out.symm)
          have hq : (0 + 0 + 1) / 4294967296 ≤ 1 := by omega
          have hend : i = max xs.length ys.length → (0 + 0 + 1) / 4294967296 = 0 := by intro h; omega
          have hd : (0 + 0 + 1) % 4294967296 < 4294967296 := Nat.mod_lt _ (by omega)
          obtain ⟨dd, hdd⟩ : ∃ n : Nat, n = 1 := ⟨1, rfl⟩
          obtain ⟨cc, hcc⟩ : ∃ n : Nat, n = 0 := ⟨0, rfl⟩
          simp only [show (0 + 0 + 1) % 4294967296 = dd by omega, show (0 + 0 + 1) / 4294967296 = cc by omega] at S hq hend hd
          subst hdd hcc
          clear hs1 hs2
          have HE := Hd hend
          have HK0 := Hd hk0
          clear step hxa hya hend hk0 hmax
          skip
          go_wp2_with (at_builtin; refine wpList_append_any _ rfl (.tmp 48) (.tmp 52) _ rfl w.heap.size 40 i0 _ 1 4 Tryd.underlying22 hi hz0 hz1 hz2 rfl (by omega) _ i _ rfl (own_below hrow ((Below.refl _ _).alloc (Nat.le_refl _) _)) _ (some ⟨wr.heap.size, 0, none⟩) 1 1 [.int .u32 (1 : Int)] rfl (Reads.new1 wr _ 1 _ rfl) (by simp [Value.oneCell']) (by unfold maxLen; omega) (by omega) (by have := hb.size; simp; omega) ?_; intro v' w' ho' hg' hat')
          go_roundw
          case rel => exact ⟨i + 1, 0, by go_num, rfl, hq, by omega, fun h => HE.out (by omega), Hd ⟨zs ++ [1], by simp [hzl], limbs_snoc HZ.out hd, by rw [show cellsU (zs ++ [1]) = cellsU zs ++ [.int .u32 (1)] by simp [cellsU]]; exact ho', below_more (own_below hrow ((Below.refl _ _).alloc (Nat.le_refl _) _)) (hb.alloc hb.size _) (Nat.le_refl _) (by have := hb.size; simp; omega) hg', S.out⟩⟩
          case measure => simp [intOf]; omega

/- A block whose first cells are limbs; slices.Clone of limbs. -/

theorem Blk.stays {w w' : World} {g : Nat} {t : TypeId} {cs : Array Value} {row : Option Nat} (h : Blk w g t cs) (hg : w.grownBy w' row) (hn : some g ≠ row) : Blk w' g t cs := (hg.block g h.lt hn).trans h

structure Front (w : World) (g cap : Nat) (zs : List Nat) : Prop where
  ex : ∃ rest : List Value, zs.length + rest.length = cap ∧ Blk w g 40 (cellsU zs ++ rest).toArray
theorem Row.front {w : World} {g : Nat} {zs : List Nat} (h : Row w g zs) : Front w g zs.length zs := ⟨[], rfl, by simpa using h.blk⟩
theorem Front.lt {w : World} {g cap : Nat} {zs : List Nat} (h : Front w g cap zs) : g < w.heap.size := by
  obtain ⟨rest, -, hb⟩ := h.ex
  exact hb.lt
theorem Front.fits {w : World} {g cap : Nat} {zs : List Nat} (h : Front w g cap zs) : zs.length ≤ cap := by
  obtain ⟨rest, he, -⟩ := h.ex
  omega
theorem Front.cell {w : World} {g cap : Nat} {zs : List Nat} (h : Front w g cap zs) {k : Nat} (hk : k < zs.length) : w.cell? ⟨g, k, none⟩ = some (.int .u32 zs[k]) := by
  obtain ⟨rest, -, hb⟩ := h.ex
  rw [hb.cell, List.getElem?_toArray, List.getElem?_append_left (by rw [cellsU_length]; exact hk), cellsU_get hk]
theorem Front.frozen {w : World} {g cap : Nat} {zs : List Nat} (h : Front w g cap zs) (k : Nat) : w.frozen? ⟨g, k, none⟩ = false := by
  obtain ⟨rest, -, hb⟩ := h.ex
  exact hb.frozen k
theorem Front.set {w : World} {g cap : Nat} {zs : List Nat} (h : Front w g cap zs) {k : Nat} (hk : k < zs.length) (d : Nat) : Front (w.setCell ⟨g, k, none⟩ (.int .u32 (d : Int))) g cap (zs.set k d) := by
  obtain ⟨rest, he, hb⟩ := h.ex
  refine ⟨rest, by simpa using he, ?_⟩
  have e : (cellsU (zs.set k d) ++ rest).toArray = (cellsU zs ++ rest).toArray.setIfInBounds k (.int .u32 (d : Int)) := by
    rw [List.setIfInBounds_toArray, List.set_append_left _ _ (by rw [cellsU_length]; exact hk)]
    simp [cellsU, List.map_set]
  rw [e]
  exact hb.set_ k _
theorem Front.stays {w w' : World} {g cap : Nat} {zs : List Nat} {row : Option Nat} (h : Front w g cap zs) (hg : w.grownBy w' row) (hn : some g ≠ row) : Front w' g cap zs := by
  obtain ⟨rest, he, hb⟩ := h.ex
  exact ⟨rest, he, hb.stays hg hn⟩
theorem Front.below {w w' : World} {g cap : Nat} {zs : List Nat} (h : Front w g cap zs) (hb : Below w.heap.size w w') : Front w' g cap zs := by
  obtain ⟨rest, he, hk⟩ := h.ex
  exact ⟨rest, he, hk.below hb hk.lt⟩
theorem Front.alloc {w : World} {g cap : Nat} {zs : List Nat} (h : Front w g cap zs) (o : Obj) : Front (w.alloc o) g cap zs := h.below ((Below.refl _ _).alloc (Nat.le_refl _) o)
theorem Front.cut {w : World} {g cap : Nat} {zs : List Nat} (h : Front w g cap zs) (n : Nat) : Front w g cap (zs.take n) := by
  obtain ⟨rest, he, hb⟩ := h.ex
  refine ⟨cellsU (zs.drop n) ++ rest, by simp [cellsU_length]; omega, ?_⟩
  rw [← List.append_assoc, show cellsU (zs.take n) ++ cellsU (zs.drop n) = cellsU zs by rw [cellsU, cellsU, ← List.map_append, List.take_append_drop]; rfl]
  exact hb
theorem Front.own {w : World} {g cap base : Nat} {zs : List Nat} (h : Front w g cap zs) (hb : base ≤ g) {n : Nat} (hn : n ≤ zs.length) (hm : cap ≤ 9223372036854775807) :
    w.ownsRow base 40 1 (.slice (some ⟨g, 0, none⟩) n cap) n (cellsU (zs.take n)) := by
  obtain ⟨rest, he, hk⟩ := h.ex
  refine ⟨by rw [cellsU_length, List.length_take]; omega, .inr ⟨g, cap, (cellsU zs ++ rest).toArray, rfl, hb, hk, by omega, by unfold maxLen; omega, by simp [cellsU]; omega, ?_⟩⟩
  rw [Nat.mul_one, cellsU_take, List.take_append_of_le_length (by rw [cellsU_length]; exact hn)]
theorem Front.ownL {w : World} {g cap base : Nat} {zs : List Nat} (h : Front w g cap zs) (hb : base ≤ g) (hm : cap ≤ 9223372036854775807) (hz : Limbs zs) : OwnL w base (.slice (some ⟨g, 0, none⟩) zs.length cap) (val zs) zs.length := by
  have := h.own hb (Nat.le_refl _) hm
  rw [List.take_length] at this
  exact ⟨_, _, zs, rfl, hz, rfl, Nat.le_refl _, h.fits, hm, this⟩
theorem Front.reads {w : World} {g cap : Nat} {zs : List Nat} (h : Front w g cap zs) : ReadsU w w.heap.size (some ⟨g, 0, none⟩) zs := by
  refine ⟨by rw [cellsU_length, Nat.mul_one], fun _ => ⟨⟨g, 0, none⟩, rfl, h.lt, fun j u hu => ?_⟩⟩
  have hj : j < zs.length := by
    have := (List.getElem?_eq_some_iff.1 hu).1
    rwa [cellsU_length] at this
  rw [cellsU_get hj] at hu
  have e : (⟨g, 0, none⟩ : Addr).add j = ⟨g, j, none⟩ := by unfold Addr.add; split <;> simp_all
  rw [e, ← hu]
  exact h.cell hj
theorem Front.raw {w : World} {g cap : Nat} {zs : List Nat} (h : Front w g cap zs) (hm : cap ≤ 9223372036854775807) (hz : Limbs zs) : Raw w (some ⟨g, 0, none⟩) cap zs := ⟨hz, h.fits, hm, h.reads⟩

structure OwnX (w : World) (base : Nat) (v : Value) (zs : List Nat) : Prop where
  limbs : Limbs zs
  form : ∃ A c, v = .slice A zs.length c ∧ zs.length ≤ c ∧ c ≤ 9223372036854775807 ∧ w.ownsRow base 40 1 (.slice A zs.length c) zs.length (cellsU zs)
theorem OwnX.ownL {w : World} {base : Nat} {v : Value} {zs : List Nat} (h : OwnX w base v zs) : OwnL w base v (val zs) zs.length := by
  obtain ⟨A, c, h1, h2, h3, h4⟩ := h.form
  exact ⟨A, c, zs, h1, h.limbs, rfl, Nat.le_refl _, h2, h3, h4⟩
theorem OwnX.front {w : World} {base : Nat} {v : Value} {zs : List Nat} (h : OwnX w base v zs) (h0 : zs ≠ []) : ∃ g cap, v = .slice (some ⟨g, 0, none⟩) zs.length cap ∧ base ≤ g ∧ cap ≤ 9223372036854775807 ∧ Front w g cap zs := by
  obtain ⟨A, c, h1, h2, h3, h4⟩ := h.form
  have hne : zs.length ≠ 0 := fun h => h0 (List.eq_nil_of_length_eq_zero h)
  rcases h4.2 with ⟨k1, k2⟩ | ⟨g, cap, cur, k1, k2, k3, k4, k5, k6, k7⟩
  · exact absurd k2 hne
  · rw [h1, k1]
    refine ⟨g, cap, rfl, k2, by simp only [maxLen] at k5; omega, cur.toList.drop zs.length, ?_, ?_⟩
    · have : cur.toList.length = cap := by rw [Array.length_toList]; omega
      rw [List.length_drop]; omega
    · rw [Nat.mul_one] at k7
      rw [← k7, List.take_append_drop]
      exact k3
theorem OwnX.of_own {w : World} {base : Nat} {v : Value} {zs : List Nat} (hz : Limbs zs) (h : w.ownsRow base 40 1 v zs.length (cellsU zs)) : OwnX w base v zs := by
  rcases h.2 with ⟨rfl, k2⟩ | ⟨g, cap, cur, rfl, k2, k3, k4, k5, k6, k7⟩
  · obtain rfl := List.eq_nil_of_length_eq_zero k2
    exact ⟨hz, none, 0, rfl, Nat.le_refl _, by omega, h⟩
  · exact ⟨hz, _, cap, rfl, k4, by simp only [maxLen] at k5; omega, h⟩
theorem OwnX.below {w w' : World} {base : Nat} {v : Value} {zs : List Nat} (h : OwnX w base v zs) (hb : Below w.heap.size w w') : OwnX w' base v zs := by
  obtain ⟨A, c, h1, h2, h3, h4⟩ := h.form
  exact ⟨h.limbs, A, c, h1, h2, h3, own_below h4 hb⟩

theorem slices_Clone (A : Option Addr) (c : Nat) (xs : List Nat) (hl : xs.length ≤ 1073741824) (w : World) (h : Raw w A c xs) :
    Calls Tryd.prog 29 #[.slice A xs.length c] w fun e w' => ∃ v, e = .returned v ∧ OwnX w' w.heap.size v xs ∧ Below w.heap.size w w' := by
  have qT : ∀ (w : World) (A : Option Addr) (n c : Nat), (binOp .eql 22 (.slice A n c) (.slice none 0 0)).run Tryd.prog w = .ok (.bool A.isNone) w := fun w A n c => Lib.run_eql_slice_nil w _ _ A n c 0 0 Tryd.underlying22
  rcases A with _ | ad
  · have hx : xs = [] := by
      rcases Nat.eq_zero_or_pos xs.length with h0 | h0
      · exact List.eq_nil_of_length_eq_zero h0
      · obtain ⟨ad, e, -⟩ := h.reads.get h0
        cases e
    subst hx
    have hl0 := h.limbs
    clear h
    go_enter Tryd.func29, Tryd.ntmps29
    go_wp2_with fail
    go_ret
    exact ⟨_, rfl, ⟨hl0, none, 0, rfl, Nat.le_refl _, by omega, World.ownsRow_nil _ _ _ _⟩, Below.refl _ _⟩
  · obtain ⟨i0, hi, hz0, hz1, hz2⟩ := info_parts limbInfo
    have hc := h.cap
    have HX := Hd h
    clear h
    go_enter Tryd.func29, Tryd.ntmps29
    go_wp2_with (at_builtin; refine wpList_append_any _ rfl (.tmp 5) (.tmp 6) _ rfl w.heap.size 40 i0 _ 1 4 Tryd.underlying22 hi hz0 hz1 hz2 rfl (by omega) _ 0 _ rfl (World.ownsRow_made w #[] 0 (Nat.le_refl _) (by unfold maxLen; omega) rfl) _ (some ad) xs.length c (cellsU xs) rfl ((HX.out.alloc _).reads) (by intro u hu; simp [cellsU] at hu; obtain ⟨x, -, rfl⟩ := hu; simp [Value.oneCell']) (by unfold maxLen; omega) (by omega) (by simp) ?_; intro v' w' ho' hg' hat')
    go_ret
    refine ⟨_, rfl, OwnX.of_own HX.out.limbs (by simpa using ho'), ?_⟩
    exact below_more (World.ownsRow_made (size := 1) w #[] 0 (Nat.le_refl _) (by unfold maxLen; omega) rfl) ((Below.refl _ _).alloc (Nat.le_refl _) _) (Nat.le_refl _) (by simp) hg'
end Go.Proofs.YtbdliabfdplohaaDoor
