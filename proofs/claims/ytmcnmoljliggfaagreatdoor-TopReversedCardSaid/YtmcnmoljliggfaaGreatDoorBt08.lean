/- Several texts in one: Front, Short, Shl, Less, Knuth. -/
import Derived.Test.YtmcnmoljliggfaaGreatDoorBt05
set_option maxRecDepth 100000
set_option maxHeartbeats 8000000
/- A block whose first cells are limbs; slices.Clone of limbs. -/
namespace Go.Proofs.YtmcnmoljliggfaaGreatDoor
open Go.RowKit

theorem Blk.stays {w w' : World} {g : Nat} {t : TypeId} {cs : Array Value} {row : Option Nat} (h : Blk w g t cs) (hg : w.grownBy w' row) (hn : some g ≠ row) : Blk w' g t cs := (hg.block g h.lt hn).trans h

structure Front (w : World) (g cap : Nat) (zs : List Nat) : Prop where
  ex : ∃ rest : List Value, zs.length + rest.length = cap ∧ Blk w g 109 (cellsU zs ++ rest).toArray
theorem Row.front {w : World} {g : Nat} {zs : List Nat} (h : Row w g zs) : Front w g zs.length zs := ⟨[], rfl, by simpa using h.blk⟩
theorem Front.lt {w : World} {g cap : Nat} {zs : List Nat} (h : Front w g cap zs) : g < w.heap.size := by
  obtain ⟨rest, -, hb⟩ := h.ex
  exact hb.lt
theorem Front.fits {w : World} {g cap : Nat} {zs : List Nat} (h : Front w g cap zs) : zs.length ≤ cap := by
  obtain ⟨rest, he, -⟩ := h.ex
  omega
theorem Front.cell {w : World} {g cap : Nat} {zs : List Nat} (h : Front w g cap zs) {k : Nat} (hk : k < zs.length) : w.cell? ⟨g, k, none⟩ = some (.int .u32 zs[k]) := by
  obtain ⟨rest, -, hb⟩ := h.ex
  rw [hb.cell, List.getElem?_toArray, List.getElem?_append_left (by rw [cellsU_length]; exact hk), cellsU_get hk]
theorem Front.frozen {w : World} {g cap : Nat} {zs : List Nat} (h : Front w g cap zs) (k : Nat) : w.frozen? ⟨g, k, none⟩ = false := by
  obtain ⟨rest, -, hb⟩ := h.ex
  exact hb.frozen k
theorem Front.set {w : World} {g cap : Nat} {zs : List Nat} (h : Front w g cap zs) {k : Nat} (hk : k < zs.length) (d : Nat) : Front (w.setCell ⟨g, k, none⟩ (.int .u32 (d : Int))) g cap (zs.set k d) := by
  obtain ⟨rest, he, hb⟩ := h.ex
  refine ⟨rest, by simpa using he, ?_⟩
  have e : (cellsU (zs.set k d) ++ rest).toArray = (cellsU zs ++ rest).toArray.setIfInBounds k (.int .u32 (d : Int)) := by
    rw [List.setIfInBounds_toArray, List.set_append_left _ _ (by rw [cellsU_length]; exact hk)]
    simp [cellsU, List.map_set]
  rw [e]
  exact hb.set_ k _
theorem Front.stays {w w' : World} {g cap : Nat} {zs : List Nat} {row : Option Nat} (h : Front w g cap zs) (hg : w.grownBy w' row) (hn : some g ≠ row) : Front w' g cap zs := by
  obtain ⟨rest, he, hb⟩ := h.ex
  exact ⟨rest, he, hb.stays hg hn⟩
theorem Front.below {w w' : World} {g cap : Nat} {zs : List Nat} (h : Front w g cap zs) (hb : Below w.heap.size w w') : Front w' g cap zs := by
  obtain ⟨rest, he, hk⟩ := h.ex
  exact ⟨rest, he, hk.below hb hk.lt⟩
theorem Front.alloc {w : World} {g cap : Nat} {zs : List Nat} (h : Front w g cap zs) (o : Obj) : Front (w.alloc o) g cap zs := h.below ((Below.refl _ _).alloc (Nat.le_refl _) o)
theorem Front.cut {w : World} {g cap : Nat} {zs : List Nat} (h : Front w g cap zs) (n : Nat) : Front w g cap (zs.take n) := by
  obtain ⟨rest, he, hb⟩ := h.ex
  refine ⟨cellsU (zs.drop n) ++ rest, by simp [cellsU_length]; omega, ?_⟩
  rw [← List.append_assoc, show cellsU (zs.take n) ++ cellsU (zs.drop n) = cellsU zs by rw [cellsU, cellsU, ← List.map_append, List.take_append_drop]; rfl]
  exact hb
theorem Front.own {w : World} {g cap base : Nat} {zs : List Nat} (h : Front w g cap zs) (hb : base ≤ g) {n : Nat} (hn : n ≤ zs.length) (hm : cap ≤ 9223372036854775807) :
    w.ownsRow base 109 1 (.slice (some ⟨g, 0, none⟩) n cap) n (cellsU (zs.take n)) := by
  obtain ⟨rest, he, hk⟩ := h.ex
  refine ⟨by rw [cellsU_length, List.length_take]; omega, .inr ⟨g, cap, (cellsU zs ++ rest).toArray, rfl, hb, hk, by omega, by unfold maxLen; omega, by simp [cellsU]; omega, ?_⟩⟩
  rw [Nat.mul_one, cellsU_take, List.take_append_of_le_length (by rw [cellsU_length]; exact hn)]
theorem Front.reads {w : World} {g cap : Nat} {zs : List Nat} (h : Front w g cap zs) : ReadsU w w.heap.size (some ⟨g, 0, none⟩) zs := by
  refine ⟨by rw [cellsU_length, Nat.mul_one], fun _ => ⟨⟨g, 0, none⟩, rfl, h.lt, fun j u hu => ?_⟩⟩
  have hj : j < zs.length := by
    have := (List.getElem?_eq_some_iff.1 hu).1
    rwa [cellsU_length] at this
  rw [cellsU_get hj] at hu
  have e : (⟨g, 0, none⟩ : Addr).add j = ⟨g, j, none⟩ := by unfold Addr.add; split <;> simp_all
  rw [e, ← hu]
  exact h.cell hj
theorem Front.raw {w : World} {g cap : Nat} {zs : List Nat} (h : Front w g cap zs) (hm : cap ≤ 9223372036854775807) (hz : Limbs zs) : Raw w (some ⟨g, 0, none⟩) cap zs := ⟨hz, h.fits, hm, h.reads⟩

structure OwnX (w : World) (base : Nat) (v : Value) (zs : List Nat) : Prop where
  limbs : Limbs zs
  form : ∃ A c, v = .slice A zs.length c ∧ zs.length ≤ c ∧ c ≤ 9223372036854775807 ∧ w.ownsRow base 109 1 (.slice A zs.length c) zs.length (cellsU zs)
theorem OwnX.front {w : World} {base : Nat} {v : Value} {zs : List Nat} (h : OwnX w base v zs) (h0 : zs ≠ []) : ∃ g cap, v = .slice (some ⟨g, 0, none⟩) zs.length cap ∧ base ≤ g ∧ cap ≤ 9223372036854775807 ∧ Front w g cap zs := by
  obtain ⟨A, c, h1, h2, h3, h4⟩ := h.form
  have hne : zs.length ≠ 0 := fun h => h0 (List.eq_nil_of_length_eq_zero h)
  rcases h4.2 with ⟨k1, k2⟩ | ⟨g, cap, cur, k1, k2, k3, k4, k5, k6, k7⟩
  · exact absurd k2 hne
  · rw [h1, k1]
    refine ⟨g, cap, rfl, k2, by simp only [maxLen] at k5; omega, cur.toList.drop zs.length, ?_, ?_⟩
    · have : cur.toList.length = cap := by rw [Array.length_toList]; omega
      rw [List.length_drop]; omega
    · rw [Nat.mul_one] at k7
      rw [← k7, List.take_append_drop]
      exact k3
theorem OwnX.of_own {w : World} {base : Nat} {v : Value} {zs : List Nat} (hz : Limbs zs) (h : w.ownsRow base 109 1 v zs.length (cellsU zs)) : OwnX w base v zs := by
  rcases h.2 with ⟨rfl, k2⟩ | ⟨g, cap, cur, rfl, k2, k3, k4, k5, k6, k7⟩
  · obtain rfl := List.eq_nil_of_length_eq_zero k2
    exact ⟨hz, none, 0, rfl, Nat.le_refl _, by omega, h⟩
  · exact ⟨hz, _, cap, rfl, k4, by simp only [maxLen] at k5; omega, h⟩
theorem slices_Clone (A : Option Addr) (c : Nat) (xs : List Nat) (hl : xs.length ≤ 1073741824) (w : World) (h : Raw w A c xs) :
    Calls Tryz.prog 114 #[.slice A xs.length c] w fun e w' => ∃ v, e = .returned v ∧ OwnX w' w.heap.size v xs ∧ Below w.heap.size w w' := by
  have qT : ∀ (w : World) (A : Option Addr) (n c : Nat), (binOp .eql 23 (.slice A n c) (.slice none 0 0)).run Tryz.prog w = .ok (.bool A.isNone) w := fun w A n c => Lib.run_eql_slice_nil w _ _ A n c 0 0 Tryz.underlying23
  rcases A with _ | ad
  · have hx : xs = [] := by
      rcases Nat.eq_zero_or_pos xs.length with h0 | h0
      · exact List.eq_nil_of_length_eq_zero h0
      · obtain ⟨ad, e, -⟩ := h.reads.get h0
        cases e
    subst hx
    have hl0 := h.limbs
    clear h
    go_enter Tryz.func114, Tryz.ntmps114
    go_wp2_with fail
    go_ret
    exact ⟨_, rfl, ⟨hl0, none, 0, rfl, Nat.le_refl _, by omega, World.ownsRow_nil _ _ _ _⟩, Below.refl _ _⟩
  · obtain ⟨i0, hi, hz0, hz1, hz2⟩ := info_parts limbInfo
    have hc := h.cap
    have HX := Hd h
    clear h
    go_enter Tryz.func114, Tryz.ntmps114
    go_wp2_with (at_builtin; refine wpList_append_any _ rfl (.tmp 5) (.tmp 6) _ rfl w.heap.size 109 i0 _ 1 4 Tryz.underlying23 hi hz0 hz1 hz2 rfl (by omega) _ 0 _ rfl (World.ownsRow_made w #[] 0 (Nat.le_refl _) (by unfold maxLen; omega) rfl) _ (some ad) xs.length c (cellsU xs) rfl ((HX.out.alloc _).reads) (by intro u hu; simp [cellsU] at hu; obtain ⟨x, -, rfl⟩ := hu; simp [Value.oneCell']) (by unfold maxLen; omega) (by omega) (by simp) ?_; intro v' w' ho' hg' hat')
    go_ret
    refine ⟨_, rfl, OwnX.of_own HX.out.limbs (by simpa using ho'), ?_⟩
    exact below_more (World.ownsRow_made (size := 1) w #[] 0 (Nat.le_refl _) (by unfold maxLen; omega) rfl) ((Below.refl _ _).alloc (Nat.le_refl _) _) (Nat.le_refl _) (by simp) hg'
/- Limbs by one limb: bits.Div32, short of package exact and of the references. -/

theorem or_join (h l : Nat) (hh : h < 4294967296) (hl : l < 4294967296) : bits .or .u64 ((h : Int) * 4294967296) (l : Int) = ((h * 4294967296 + l : Nat) : Int) := by
  have e := bits_or_u64_nat (h * 4294967296) l (by omega) (by omega)
  have e2 : h * 4294967296 ||| l = h * 4294967296 + l := by
    have := Nat.shiftLeft_add_eq_or_of_lt (i := 32) (b := l) (by omega) h
    rw [Nat.shiftLeft_eq] at this
    exact this.symm
  rw [e2] at e
  rw [← e]
  simp

theorem bits_Div32 (h l y : Nat) (hh : h < y) (hl : l < 4294967296) (hy : y < 4294967296) (w : World) :
    Calls Tryz.prog 123 #[.int .u32 h, .int .u32 l, .int .u32 y] w fun e w' => e = .returned (.tuple #[.int .u32 ((h * 4294967296 + l) / y : Nat), .int .u32 ((h * 4294967296 + l) % y : Nat)]) ∧ Below w.heap.size w w' ∧ w.grownBy w' none := by
  have hy0 : (0 : Int) < (y : Int) := by omega
  have hyh : (h : Int) < (y : Int) := by omega
  have ej := or_join h l (by omega) hl
  have hq : (h * 4294967296 + l) / y < 4294967296 := by
    rw [Nat.div_lt_iff_lt_mul (by omega)]
    have := Nat.mul_le_mul_left 4294967296 (show h + 1 ≤ y from hh)
    omega
  have hr : (h * 4294967296 + l) % y < y := Nat.mod_lt _ (by omega)
  have hm : h * 4294967296 + l < 18446744073709551616 := by omega
  generalize hM : h * 4294967296 + l = M at *
  go_enter Tryz.func123, Tryz.ntmps123
  go_wp2_with fail
  go_quiet (fail)
  go_wp2_with fail
  go_ret2
  have e1 : IntKind.u64.wrap ((M : Int) / (y : Int)) % 4294967296 = ((M / y : Nat) : Int) := by
    rw [IntKind.wrap_u64, ← Int.natCast_ediv]
    generalize M / y = q at hq
    omega
  have e2 : (M : Int) % (y : Int) = ((M % y : Nat) : Int) := by rw [← Int.natCast_emod]
  exact ⟨two_eq e1 e2, below_drewN (Below.refl _ _) _, ⟨rfl, rfl, rfl, Nat.le_refl _, fun _ _ _ => rfl⟩⟩

theorem val_drop_set {zs : List Nat} {k d : Nat} (h : k < zs.length) : val ((zs.set k d).drop k) = d + 4294967296 * val (zs.drop (k + 1)) := by
  rw [List.drop_eq_getElem_cons (by simpa using h), val]
  rw [List.getElem_set_self, List.drop_set_of_lt (by omega)]
theorem short_step {Q R A d x : Nat} (h : Q * d + R = A) : ((R * 4294967296 + x) / d + 4294967296 * Q) * d + (R * 4294967296 + x) % d = x + 4294967296 * A := by
  have e := Nat.div_add_mod (R * 4294967296 + x) d
  rw [Nat.add_mul, Nat.mul_assoc 4294967296 Q d]
  rw [Nat.mul_comm d] at e
  generalize (R * 4294967296 + x) / d * d = a at *
  generalize Q * d = c at *
  omega

theorem grown_set {w0 w : World} {g : Nat} (h : w0.grownBy w (some g)) (k : Nat) (u : Value) : w0.grownBy (w.setCell ⟨g, k, none⟩ u) (some g) :=
  ⟨h.os, h.tape, h.output, by simpa [World.setCell] using h.size, fun b hb hn => (Below.heap_setCell _ ⟨g, k, none⟩ _ _ (fun e => hn (by rw [e]))).trans (h.block b hb hn)⟩
theorem grown_then {w0 w w' : World} {row : Option Nat} (h : w0.grownBy w row) (k : w.grownBy w' none) : w0.grownBy w' row :=
  ⟨k.os.trans h.os, k.tape.trans h.tape, k.output.trans h.output, Nat.le_trans h.size k.size, fun b hb hn => (k.block b (Nat.lt_of_lt_of_le hb h.size) (by simp)).trans (h.block b hb hn)⟩
theorem grown_below {w0 w : World} {g B : Nat} (h : w0.grownBy w (some g)) (hB : B ≤ g) (hs : B ≤ w0.heap.size) : Below B w0 w := (Below.refl B w0).grown h hs (fun k hk => by injection hk with hk; omega)

structure Shorted (w0 wr : World) (g cap : Nat) (zs : List Nat) (d k R : Nat) (zs' : List Nat) : Prop where
  len : zs'.length = zs.length
  limbs : Limbs zs'
  row : Front wr g cap zs'
  low : w0.grownBy wr (some g)
  here : zs'.take k = zs.take k
  done : val (zs'.drop k) * d + R = val (zs.drop k)
  rest : R < d
theorem Shorted.step {w0 wr wr' : World} {g cap : Nat} {zs zs' : List Nat} {d k R : Nat} (h : Shorted w0 wr g cap zs d (k + 1) R zs') (hk : k < zs.length) (hz : Limbs zs) (hg : wr.grownBy wr' none) :
    Shorted w0 (wr'.setCell ⟨g, k, none⟩ (.int .u32 (((R * 4294967296 + zs[k]) / d : Nat) : Int))) g cap zs d k ((R * 4294967296 + zs[k]) % d) (zs'.set k ((R * 4294967296 + zs[k]) / d)) := by
  have hR := h.rest
  have hx := limbs_get hz hk
  have hq : (R * 4294967296 + zs[k]) / d < 4294967296 := by
    rw [Nat.div_lt_iff_lt_mul (by omega)]
    have := Nat.mul_le_mul_left 4294967296 (show R + 1 ≤ d from hR)
    omega
  have hrow : Front wr' g cap zs' := h.row.stays hg (by simp)
  refine ⟨by simp [h.len], limbs_set h.limbs hq, hrow.set (by rw [h.len]; exact hk) _, grown_set (grown_then h.low hg) k _, ?_, ?_, Nat.mod_lt _ (by omega)⟩
  · have e := h.here
    rw [List.take_set_of_le (Nat.le_refl _)]
    have := congrArg (List.take k) e
    rwa [List.take_take, List.take_take, Nat.min_eq_left (by omega)] at this
  · rw [val_drop_set (by rw [h.len]; exact hk), val_drop_more hk]
    exact short_step h.done

theorem exact_short (g cap c d : Nat) (zs : List Nat) (hd : 0 < d) (hd2 : d < 4294967296) (hz : Limbs zs) (hl : zs.length ≤ 1152921504606846976) (w : World) (h : Front w g cap zs) :
    Calls Tryz.prog 116 #[.slice (some ⟨g, 0, none⟩) zs.length c, .int .u32 d] w fun e w' => e = .returned (.int .u32 ((val zs % d : Nat) : Int)) ∧ ∃ zs', zs'.length = zs.length ∧ Limbs zs' ∧ val zs' = val zs / d ∧ Front w' g cap zs' ∧ w.grownBy w' (some g) := by
  have H0 := Hd (⟨zs, rfl, hz, h, World.grownBy.refl w _, rfl, by rw [List.drop_length]; simp [val], hd⟩ : ∃ zs', Shorted w w g cap zs d zs.length 0 zs')
  have HZ := Hd hz
  clear h hz
  go_enter Tryz.func116, Tryz.ntmps116
  go_wp2_with fail
  go_loopw [5, 6] (fun r s wr => ∃ k R : Nat, ∃ i : Int, s = .int .i64 i ∧ i = (k : Int) - 1 ∧ r = .int .u32 R ∧ k ≤ zs.length ∧ R < d ∧ Hid (∃ zs', Shorted w wr g cap zs d k R zs')) (fun _ s _ => (intOf s + 1).toNat)
  case atStart => exact ⟨zs.length, 0, _, rfl, by omega, rfl, Nat.le_refl _, hd, H0⟩
  case round =>
    obtain ⟨k, R, i, rfl, hik, rfl, hk, hR, HR⟩ := hrel
    clear H0
    obtain ⟨zs', hs⟩ := HR.out
    have HS := Hd hs
    clear HR hs
    cases k with
    | zero =>
      obtain rfl : i = -1 := by omega
      clear hik
      have hv := HS.out.done
      have hres : (R : Nat) = val zs % d ∧ val zs' = val zs / d := by
        simp only [List.drop_zero] at hv
        rw [← hv]
        constructor
        · rw [Nat.mul_add_mod_self_right, Nat.mod_eq_of_lt hR]
        · rw [Nat.add_comm, Nat.add_mul_div_right _ _ hd, Nat.div_eq_of_lt hR, Nat.zero_add]
      have HV := Hd hres
      clear hres hv
      go_wp2_with fail
      go_ret
      exact ⟨by rw [HV.out.1]; rfl, zs', HS.out.len, HS.out.limbs, HV.out.2, HS.out.row, HS.out.low⟩
    | succ j =>
      obtain rfl : i = (j : Int) := by omega
      clear hik
      have a0 : (0 : Int) ≤ (j : Int) := by omega
      have a1 : (j : Int) < (zs.length : Int) := by omega
      have hj : j < zs.length := by omega
      have hj2 : j < zs'.length := by rw [HS.out.len]; exact hj
      have fz := HS.out.row.frozen j
      have hcell := HS.out.row.cell hj2
      have hsame : zs'[j] = zs[j] := by
        have e := congrArg (fun l : List Nat => l[j]?) HS.out.here
        simp only [List.getElem?_take, if_pos (Nat.lt_succ_self j)] at e
        rw [List.getElem?_eq_getElem hj2, List.getElem?_eq_getElem hj] at e
        exact Option.some.inj e
      rw [hsame] at hcell
      have hx := limbs_get HZ.out hj
      have S := Hd (fun (wr' : World) (hg : wr.grownBy wr' none) => HS.out.step hj HZ.out hg)
      have hR2 := (HS.out.step hj HZ.out (World.grownBy.refl wr none)).rest
      generalize zs[j] = x at hcell hx S hR2
      have C := Hd (fun V => bits_Div32 R x d hR hx hd2 V)
      have hlt := HS.out.row.lt
      generalize (R * 4294967296 + x) / d = qq at C S
      generalize (R * 4294967296 + x) % d = rr at C S hR2
      have HROW := Hd HS.out.row
      clear hsame HS
      go_wp2_with (first
        | (go_at_call 123; with_reducible refine (C.out _).mono ?_; rintro e w' ⟨rfl, hbx, hgx⟩; have hrow' : Front w' g cap zs' := HROW.out.stays hgx (by simp); have fz2 := hrow'.frozen j; have hcell2 : w'.cell? ⟨g, j, none⟩ = some (.int .u32 x) := (World.cell?_of_block (hgx.block g hlt (by simp))).trans hcell; have hlt2 := hrow'.lt; clear hrow'))
      go_roundw
      case rel => exact ⟨j, rr, _, rfl, rfl, rfl, by omega, hR2, Hd ⟨_, S.out w' hgx⟩⟩
      case measure => simp [intOf]

structure ShortedTo (w0 wr : World) (g : Nat) (xs : List Nat) (d k R : Nat) (zs' : List Nat) : Prop where
  len : zs'.length = xs.length
  limbs : Limbs zs'
  row : Row wr g zs'
  low : Below w0.heap.size w0 wr
  done : val (zs'.drop k) * d + R = val (xs.drop k)
  rest : R < d
/- Limbs times 2^n: exact.up. -/

theorem or_u32_nat (a b : Nat) (ha : a < 4294967296) (hb : b < 4294967296) : bits .or .u32 (a : Int) (b : Int) = ((a ||| b : Nat) : Int) := by
  have hx : a ||| b < 2 ^ 32 := Nat.or_lt_two_pow (by omega) (by omega)
  have h1 : (BitVec.ofInt 32 (a : Int)).toNat = a := by
    rw [BitVec.ofInt_natCast, BitVec.toNat_ofNat]; exact Nat.mod_eq_of_lt (by omega)
  have h2 : (BitVec.ofInt 32 (b : Int)).toNat = b := by
    rw [BitVec.ofInt_natCast, BitVec.toNat_ofNat]; exact Nat.mod_eq_of_lt (by omega)
  show IntKind.u32.wrap ((BitVec.ofInt 32 (a : Int) ||| BitVec.ofInt 32 (b : Int)).toNat : Int) = _
  rw [BitVec.toNat_or, h1, h2, IntKind.wrap_u32']
  omega
theorem shl_mod (u n : Nat) (hn : n ≤ 32) : u * 2 ^ n % 4294967296 = (u % 2 ^ (32 - n)) * 2 ^ n := by
  have e : (4294967296 : Nat) = 2 ^ (32 - n) * 2 ^ n := by rw [← Nat.pow_add, show 32 - n + n = 32 by omega]
  rw [e, Nat.mul_mod_mul_right]
theorem or_low (a n c : Nat) (hc : c < 2 ^ n) : a * 2 ^ n ||| c = a * 2 ^ n + c := by
  have := Nat.shiftLeft_add_eq_or_of_lt (i := n) (b := c) hc a
  rw [Nat.shiftLeft_eq] at this
  exact this.symm
theorem up_digit (u n c : Nat) (hn : n ≤ 32) (hu : u < 4294967296) (hc : c < 2 ^ n) :
    bits .or .u32 (((u * 2 ^ n % 4294967296 : Nat) : Int)) (c : Int) = ((u * 2 ^ n % 4294967296 + c : Nat) : Int) ∧ u * 2 ^ n % 4294967296 + c < 4294967296 ∧ u * 2 ^ n / 4294967296 < 2 ^ n := by
  have hp : 2 ^ n ≤ 2 ^ 32 := Nat.pow_le_pow_right (by omega) hn
  have hle : u % 2 ^ (32 - n) + 1 ≤ 2 ^ (32 - n) := Nat.mod_lt _ (Nat.two_pow_pos _)
  have h2 := Nat.mul_le_mul_right (2 ^ n) hle
  rw [← Nat.pow_add, show 32 - n + n = 32 by omega, Nat.add_mul, Nat.one_mul, ← shl_mod u n hn] at h2
  refine ⟨?_, by omega, ?_⟩
  · rw [or_u32_nat _ _ (by omega) (by omega), shl_mod u n hn, or_low _ _ _ hc]
  · rw [Nat.div_lt_iff_lt_mul (by omega), Nat.mul_comm (2 ^ n)]
    exact Nat.mul_lt_mul_of_pos_right hu (Nat.two_pow_pos _)
theorem up_step {zs : List Nat} {k c va n : Nat} (hk : zs.length = k) (u : Nat) (h : val zs + 4294967296 ^ k * c = va * 2 ^ n) :
    val (zs ++ [u * 2 ^ n % 4294967296 + c]) + 4294967296 ^ (k + 1) * (u * 2 ^ n / 4294967296) = (va + 4294967296 ^ k * u) * 2 ^ n := by
  subst hk
  rw [val_snoc, Nat.add_mul, ← h, Nat.pow_succ]
  generalize 4294967296 ^ zs.length = P
  have e : P * 4294967296 * (u * 2 ^ n / 4294967296) + P * (u * 2 ^ n % 4294967296) = P * u * 2 ^ n := by
    rw [Nat.mul_assoc, ← Nat.mul_add, Nat.div_add_mod, Nat.mul_assoc]
  rw [Nat.mul_add]
  omega

theorem in_pow (x n : Nat) : (x : Int) * 2 ^ n % 4294967296 = ((x * 2 ^ n % 4294967296 : Nat) : Int) := by simp
theorem wrap_pow (x n : Nat) (h : x * 2 ^ n < 18446744073709551616) : IntKind.u64.wrap ((x : Int) * 2 ^ n) = ((x * 2 ^ n : Nat) : Int) := by
  have e : (x : Int) * 2 ^ n = ((x * 2 ^ n : Nat) : Int) := by simp
  rw [e, IntKind.wrap_u64]
  omega
theorem out_pow (x n : Nat) (h : x * 2 ^ n / 4294967296 < 4294967296) : ((x * 2 ^ n : Nat) : Int) / 4294967296 % 4294967296 = ((x * 2 ^ n / 4294967296 : Nat) : Int) := by omega

theorem exact_up (A : Option Addr) (c n : Nat) (xs : List Nat) (hn : n ≤ 31) (hl : xs.length ≤ 1073741824) (w : World) (h : Raw w A c xs) :
    Calls Tryz.prog 126 #[.slice A xs.length c, .int .u64 n] w fun e w' => ∃ g zs, e = .returned (.slice (some ⟨g, 0, none⟩) (xs.length + 1) (xs.length + 1)) ∧ w.heap.size ≤ g ∧ zs.length = xs.length + 1 ∧ Limbs zs ∧ val zs = val xs * 2 ^ n ∧ Row w' g zs ∧ Below w.heap.size w w' := by
  have HX := Hd h
  have hc := h.cap
  have hm := h.most
  clear h
  obtain ⟨i0, hi, hz0, hz1, hz2⟩ := info_parts limbInfo
  have hmk : ∀ W : World, (Instr.makeSlice 23 (.int .i64 ((xs.length : Int) + 1)) (.int .i64 ((xs.length : Int) + 1))).run Tryz.prog W = .ok (.slice (some ⟨W.heap.size, 0, none⟩) (xs.length + 1) (xs.length + 1)) (W.alloc (.cells (madeCells #[.int .u32 0] (xs.length + 1)) 109)) := fun W => by
    have h := run_make_rowN (P := Tryz.prog) 23 109 i0 _ Tryz.underlying23 hi hz0 .i64 .i64 (xs.length + 1) (xs.length + 1) (by omega) (by rw [hz2]; omega) (by omega) W
    rw [show ((xs.length + 1 : Nat) : Int) = (xs.length : Int) + 1 by omega, hz1, Nat.mul_one] at h
    exact h
  have I0 : ∃ zs, zs.length = xs.length + 1 ∧ Limbs zs ∧ Row (w.alloc (.cells (madeCells #[.int .u32 0] (xs.length + 1)) 109)) w.heap.size zs ∧ Below w.heap.size w (w.alloc (.cells (madeCells #[.int .u32 0] (xs.length + 1)) 109)) ∧ val (zs.take 0) + 4294967296 ^ 0 * 0 = val (xs.take 0) * 2 ^ n :=
    ⟨_, by simp, limbs_noughts _, Row.made w _, (Below.refl _ _).alloc (Nat.le_refl _) _, by simp [val]⟩
  have H0 := Hd I0
  have hP := Nat.two_pow_pos n
  clear I0
  go_enter Tryz.func126, Tryz.ntmps126
  go_wp2_with fail
  clear hmk
  go_loopw [6, 15] (fun t s wr => ∃ i k : Nat, s = .int .i64 i ∧ t = .int .u32 k ∧ k < 2 ^ n ∧ i ≤ xs.length ∧ Hid (∃ zs, zs.length = xs.length + 1 ∧ Limbs zs ∧ Row wr w.heap.size zs ∧ Below w.heap.size w wr ∧ val (zs.take i) + 4294967296 ^ i * k = val (xs.take i) * 2 ^ n)) (fun _ s _ => xs.length - (intOf s).toNat)
  case atStart => exact ⟨0, 0, rfl, rfl, hP, Nat.zero_le _, H0⟩
  case round =>
    obtain ⟨i, k, rfl, rfl, hk, hi', HR⟩ := hrel
    clear H0
    obtain ⟨zs, hzl, hz, hrow, hb, hv⟩ := HR.out
    have HV := Hd hv
    have HZ := Hd hz
    clear HR hv hz
    by_cases hlt : i < xs.length
    · have a0 : (0 : Int) ≤ (i : Int) := by omega
      have a1 : (i : Int) < (xs.length : Int) := by omega
      have a2 : (i : Int) < (xs.length : Int) + 1 := by omega
      have fz := hrow.frozen i
      have hcell := hrow.cell (k := i) (by omega)
      obtain ⟨ad, rfl, hbl, hx⟩ := (HX.out.below hb).reads.get hlt
      have hbx := limbs_get HX.out.limbs hlt
      obtain ⟨e1, e2, e3⟩ := up_digit xs[i] n k (by omega) hbx hk
      have S := Hd (⟨zs.set i _, by simp [hzl], limbs_set HZ.out e2, hrow.set i _, hb.setCell (p := ⟨w.heap.size, i, none⟩) (Nat.le_refl _) _, by
          rw [set_take_more (by omega), up_step (zs := zs.take i) (k := i) (by rw [List.length_take]; omega) xs[i] HV.out, val_take_more hlt]⟩ : ∃ zs', zs'.length = xs.length + 1 ∧ Limbs zs' ∧ Row (wr.setCell ⟨w.heap.size, i, none⟩ (.int .u32 ((xs[i] * 2 ^ n % 4294967296 + k : Nat) : Int))) w.heap.size zs' ∧ Below w.heap.size w (wr.setCell ⟨w.heap.size, i, none⟩ (.int .u32 ((xs[i] * 2 ^ n % 4294967296 + k : Nat) : Int))) ∧ val (zs'.take (i + 1)) + 4294967296 ^ (i + 1) * (xs[i] * 2 ^ n / 4294967296) = val (xs.take (i + 1)) * 2 ^ n)
      generalize zs[i] = zi at hcell
      generalize xs[i] = x at hx hbx S e1 e2 e3
      have e3b : x * 2 ^ n / 4294967296 < 4294967296 := Nat.lt_of_lt_of_le e3 (Nat.le_trans (Nat.pow_le_pow_right (by omega) (show n ≤ 32 by omega)) (by omega))
      have e4 : x * 2 ^ n < 18446744073709551616 := by omega
      clear hbl
      go_wp2_with fail
      go_roundw
      case rel => exact ⟨i + 1, x * 2 ^ n / 4294967296, by go_num, by rw [wrap_pow x n e4, out_pow x n e3b], e3, hlt, by rw [in_pow, e1]; exact S⟩
      case measure => simp [intOf]; omega
    · obtain rfl : i = xs.length := by omega
      have fz := hrow.frozen xs.length
      have hcell := hrow.cell (k := xs.length) (by omega)
      generalize zs[xs.length] = zi at hcell
      have a0 : (0 : Int) ≤ (xs.length : Int) := by omega
      have a2 : (xs.length : Int) < (xs.length : Int) + 1 := by omega
      have hk2 : k < 4294967296 := by
        have : 2 ^ n ≤ 2 ^ 31 := Nat.pow_le_pow_right (by omega) hn
        omega
      have hrow2 := hrow.set xs.length k
      have hb2 := hb.setCell (p := ⟨w.heap.size, xs.length, none⟩) (Nat.le_refl _) (.int .u32 (k : Int))
      have hval : val (zs.set xs.length k) = val xs * 2 ^ n := by
        have e := set_take_more (zs := zs) (k := xs.length) (d := k) (by omega)
        rw [List.take_of_length_le (by simp; omega)] at e
        have e2 := HV.out
        rw [val_take_all (xs := xs) (k := xs.length) (Nat.le_refl _)] at e2
        rw [e, val_snoc, List.length_take, Nat.min_eq_left (by omega)]
        exact e2
      have HO := Hd (⟨zs.set xs.length k, by simp [hzl], limbs_set HZ.out hk2, hval, hrow2, hb2⟩ : ∃ zs', zs'.length = xs.length + 1 ∧ Limbs zs' ∧ val zs' = val xs * 2 ^ n ∧ Row (wr.setCell ⟨w.heap.size, xs.length, none⟩ (.int .u32 (k : Int))) w.heap.size zs' ∧ Below w.heap.size w (wr.setCell ⟨w.heap.size, xs.length, none⟩ (.int .u32 (k : Int))))
      clear hb2 hval hrow2 HV HZ HX
      go_wp2_with fail
      go_ret
      obtain ⟨zs', h1, h2, h3, h4, h5⟩ := HO.out
      exact ⟨w.heap.size, zs', rfl, Nat.le_refl _, h1, h2, h3, h4, h5⟩
/- Limbs less q times others, from a place on, in place: exact.less. -/

theorem set_mid (pre ps post : List Nat) (k d : Nat) (hk : k < ps.length) : (pre ++ ps ++ post).set (pre.length + k) d = pre ++ ps.set k d ++ post := by
  rw [List.append_assoc, List.set_append_right _ _ (by omega), Nat.add_sub_cancel_left, List.set_append_left _ _ hk, List.append_assoc]
theorem get_mid (pre ps post : List Nat) (k : Nat) (hk : k < ps.length) (h : pre.length + k < (pre ++ ps ++ post).length) : (pre ++ ps ++ post)[pre.length + k] = ps[k] := by
  have e : (pre ++ ps ++ post)[pre.length + k]? = ps[k]? := by
    rw [List.append_assoc, List.getElem?_append_right (by omega), Nat.add_sub_cancel_left, List.getElem?_append_left hk]
  rw [List.getElem?_eq_getElem h, List.getElem?_eq_getElem hk] at e
  exact Option.some.inj e
theorem Row.mid_cell {w : World} {g : Nat} {pre ps post : List Nat} (h : Row w g (pre ++ ps ++ post)) {k : Nat} (hk : k < ps.length) : w.cell? ⟨g, pre.length + k, none⟩ = some (.int .u32 ps[k]) := by
  rw [h.cell (k := pre.length + k) (by simp; omega), get_mid _ _ _ _ hk]
theorem Row.mid_set {w : World} {g : Nat} {pre ps post : List Nat} (h : Row w g (pre ++ ps ++ post)) {k : Nat} (hk : k < ps.length) (d : Nat) : Row (w.setCell ⟨g, pre.length + k, none⟩ (.int .u32 (d : Int))) g (pre ++ ps.set k d ++ post) := by
  have := h.set (pre.length + k) d
  rwa [set_mid _ _ _ _ _ hk] at this
theorem Row.head_cell {w : World} {g : Nat} {ds es : List Nat} (h : Row w g (ds ++ es)) {k : Nat} (hk : k < ds.length) : w.cell? ⟨g, k, none⟩ = some (.int .u32 ds[k]) := by
  rw [h.cell (k := k) (by simp; omega), List.getElem_append_left hk]
theorem Row.stays {w w' : World} {g : Nat} {zs : List Nat} {row : Option Nat} (h : Row w g zs) (hg : w.grownBy w' row) (hn : some g ≠ row) : Row w' g zs := ⟨h.blk.stays hg hn⟩
theorem list_same {a b : List Nat} {k : Nat} (h : a.drop k = b.drop k) (ha : k < a.length) (hb : k < b.length) : a[k] = b[k] := by
  rw [List.drop_eq_getElem_cons ha, List.drop_eq_getElem_cons hb] at h
  exact (List.cons.inj h).1
theorem drop_set_next {a b : List Nat} {k d : Nat} (h : a.drop k = b.drop k) : (a.set k d).drop (k + 1) = b.drop (k + 1) := by
  rw [List.drop_set_of_lt (by omega)]
  have := congrArg (List.drop 1) h
  simpa [List.drop_drop, Nat.add_comm] using this

theorem less_digit (x y : Nat) (hx : x < 4294967296) (hy : y ≤ 4294967296) :
    IntKind.u64.wrap ((x : Int) - (y : Int)) % 4294967296 = (((x + 4294967296 - y) % 4294967296 : Nat) : Int) ∧ IntKind.u64.wrap ((x : Int) - (y : Int)) / 9223372036854775808 = (((if x < y then 1 else 0) : Nat) : Int) ∧ (x + 4294967296 - y) % 4294967296 + y = x + 4294967296 * (if x < y then 1 else 0) := by
  rw [IntKind.wrap_u64]
  refine ⟨by omega, ?_, ?_⟩
  · split <;> omega
  · split <;> omega
structure Lessed (w0 wr : World) (g : Nat) (pre ps post ds : List Nat) (q k b : Nat) (ps' : List Nat) : Prop where
  len : ps'.length = ps.length
  limbs : Limbs ps'
  row : Row wr g (pre ++ ps' ++ post)
  low : w0.grownBy wr (some g)
  rest : ps'.drop k = ps.drop k
  done : val (ps'.take k) + q * val (ds.take k) = val (ps.take k) + 4294967296 ^ k * b
theorem less_val {P a qd c b q v x d s nn : Nat} (h : a + qd = c + P * b) (hs : s = b + q * v) (hd : d + s % 4294967296 = x + 4294967296 * nn) :
    a + P * d + (qd + q * (P * v)) = c + P * x + P * 4294967296 * (s / 4294967296 + nn) := by
  have e := Nat.div_add_mod s 4294967296
  have e2 : d + s = x + 4294967296 * (s / 4294967296 + nn) := by omega
  have e3 : P * (d + s) = P * (x + 4294967296 * (s / 4294967296 + nn)) := by rw [e2]
  rw [hs, Nat.mul_add, Nat.mul_add, Nat.mul_add, ← Nat.mul_assoc P 4294967296] at e3
  rw [← hs] at e3
  have e4 : q * (P * v) = P * (q * v) := by rw [Nat.mul_left_comm]
  rw [e4]
  omega
theorem Lessed.step {w0 wr : World} {g : Nat} {pre ps post ds ps' : List Nat} {q k b : Nat} (h : Lessed w0 wr g pre ps post ds q k b ps') (hk : k < ps.length) (hkd : k < ds.length) (s d nn : Nat) (hs : s = b + q * ds[k]) (hdl : d < 4294967296) (hd : d + s % 4294967296 = ps[k] + 4294967296 * nn) :
    Lessed w0 (wr.setCell ⟨g, pre.length + k, none⟩ (.int .u32 (d : Int))) g pre ps post ds q (k + 1) (s / 4294967296 + nn) (ps'.set k d) := by
  have hk2 : k < ps'.length := by rw [h.len]; exact hk
  refine ⟨by simp [h.len], limbs_set h.limbs hdl, h.row.mid_set hk2 d, grown_set h.low _ _, drop_set_next h.rest, ?_⟩
  rw [set_take_more hk2, val_snoc, List.length_take, Nat.min_eq_left (by omega), val_take_more hkd, val_take_more hk, Nat.mul_add q, Nat.pow_succ]
  exact less_val h.done hs hd

theorem exact_less (g gd c cd q : Nat) (pre ps post ds es : List Nat) (hq : q < 4294967296) (hne : gd ≠ g) (hp : ps.length = ds.length + 1) (hps : Limbs ps) (hds : Limbs ds) (hl : ds.length ≤ 1073741824) (w : World) (h : Row w g (pre ++ ps ++ post)) (h2 : Row w gd (ds ++ es)) :
    Calls Tryz.prog 127 #[.slice (some ⟨g, pre.length, none⟩) (ds.length + 1) c, .slice (some ⟨gd, 0, none⟩) ds.length cd, .int .u64 q] w fun e w' => ∃ ps' nn, e = .returned (.bool nn) ∧ ps'.length = ps.length ∧ Limbs ps' ∧ Row w' g (pre ++ ps' ++ post) ∧ w.grownBy w' (some g) ∧ val ps' + q * val ds = val ps + 4294967296 ^ (ds.length + 1) * (if nn = true then 1 else 0) := by
  have H0 := Hd (⟨rfl, hps, h, World.grownBy.refl w _, rfl, by simp [val]⟩ : Lessed w w g pre ps post ds q 0 0 ps)
  have HP := Hd hps
  have HD := Hd hds
  have H2 := Hd h2
  clear h hps hds h2
  go_enter Tryz.func127, Tryz.ntmps127
  go_wp2_with fail
  go_loopw [7, 14] (fun t s wr => ∃ k b : Nat, s = .int .i64 k ∧ t = .int .u64 b ∧ b ≤ 4294967296 ∧ k ≤ ds.length ∧ Hid (∃ ps', Lessed w wr g pre ps post ds q k b ps')) (fun _ s _ => ds.length - (intOf s).toNat)
  case atStart => exact ⟨0, 0, rfl, rfl, by omega, Nat.zero_le _, Hd ⟨_, H0.out⟩⟩
  case round =>
    obtain ⟨k, b, rfl, rfl, hb, hk, HR⟩ := hrel
    clear H0
    obtain ⟨ps', hs⟩ := HR.out
    have HS := Hd hs
    clear HR hs
    by_cases hlt : k < ds.length
    · have a0 : (0 : Int) ≤ (k : Int) := by omega
      have a1 : (k : Int) < (ds.length : Int) := by omega
      have a2 : (k : Int) < (ds.length : Int) + 1 := by omega
      have fz := HS.out.row.frozen (pre.length + k)
      have hk2 : k < ps'.length := by rw [HS.out.len]; omega
      have hk3 : k < ps.length := by omega
      have hcell := HS.out.row.mid_cell hk2
      rw [list_same HS.out.rest hk2 hk3] at hcell
      have hx := limbs_get HP.out hk3
      have hv := limbs_get HD.out hlt
      have hcd := (H2.out.stays HS.out.low (by simpa using hne)).head_cell hlt
      have hlt3 := HS.out.row.lt
      have hlt4 := (H2.out.stays HS.out.low (by simpa using hne)).lt
      have S := Hd (fun s d nn h1 h2 h3 => HS.out.step hk3 hlt s d nn h1 h2 h3)
      generalize ps[k] = x at hcell hx S
      generalize ds[k] = v at hcd hv S
      have hqv : q * v ≤ 4294967295 * 4294967295 := Nat.mul_le_mul (by omega) (by omega)
      obtain ⟨k1, k2, k3⟩ := less_digit x ((b + q * v) % 4294967296) hx (Nat.le_of_lt (Nat.mod_lt _ (by omega)))
      have S2 := Hd (S.out _ _ _ rfl (Nat.mod_lt _ (by omega)) k3)
      have e0 : (b : Int) + (q : Int) * (v : Int) = ((b + q * v : Nat) : Int) := by simp
      have e1 : ((b + q * v : Nat) : Int) % 4294967296 = (((b + q * v) % 4294967296 : Nat) : Int) := by omega
      have hs2 : b + q * v ≤ 18446744069414584321 := by omega
      have hn2 : (if x < (b + q * v) % 4294967296 then 1 else 0) ≤ 1 := by split <;> omega
      generalize (if x < (b + q * v) % 4294967296 then 1 else 0) = nn at k2 S2 hn2
      generalize (x + 4294967296 - (b + q * v) % 4294967296) % 4294967296 = dd at k1 S2
      have K := Hd (And.intro e0 (And.intro e1 (And.intro k1 k2)))
      have hb2 : (b + q * v) / 4294967296 + nn ≤ 4294967296 := by omega
      have hw : IntKind.u64.wrap (((b + q * v : Nat) : Int) / 4294967296 + (nn : Int)) = (((b + q * v) / 4294967296 + nn : Nat) : Int) := by
        rw [IntKind.wrap_u64]; omega
      have HW := Hd hw
      clear HS S e0 e1 k1 k2 hw k3
      go_wp2_with fail
      go_roundw
      case rel =>
        obtain ⟨e0, e1, k1, k2⟩ := K.out
        rw [e0, e1, k1, k2, HW.out]
        exact ⟨k + 1, (b + q * v) / 4294967296 + nn, by go_num, rfl, hb2, hlt, Hd ⟨_, S2.out⟩⟩
      case measure => simp [intOf]; omega
    · obtain rfl : k = ds.length := by omega
      have hk2 : ds.length < ps'.length := by rw [HS.out.len]; omega
      have hk3 : ds.length < ps.length := by omega
      have a0 : (0 : Int) ≤ (ds.length : Int) := by omega
      have a2 : (ds.length : Int) < (ds.length : Int) + 1 := by omega
      have fz := HS.out.row.frozen (pre.length + ds.length)
      have hcell := HS.out.row.mid_cell hk2
      rw [list_same HS.out.rest hk2 hk3] at hcell
      have hx := limbs_get HP.out hk3
      have hlt3 := HS.out.row.lt
      obtain ⟨k1, k2, k3⟩ := less_digit ps[ds.length] b hx hb
      have hfin : ∀ dd nn : Nat, dd < 4294967296 → dd + b = ps[ds.length] + 4294967296 * nn → (ps'.set ds.length dd).length = ps.length ∧ Limbs (ps'.set ds.length dd) ∧ Row (wr.setCell ⟨g, pre.length + ds.length, none⟩ (.int .u32 (dd : Int))) g (pre ++ ps'.set ds.length dd ++ post) ∧ w.grownBy (wr.setCell ⟨g, pre.length + ds.length, none⟩ (.int .u32 (dd : Int))) (some g) ∧ val (ps'.set ds.length dd) + q * val ds = val ps + 4294967296 ^ (ds.length + 1) * nn := fun dd nn h1 h3 => by
        refine ⟨by simp [HS.out.len], limbs_set HS.out.limbs h1, HS.out.row.mid_set hk2 dd, grown_set HS.out.low _ _, ?_⟩
        have e := set_take_more (zs := ps') (k := ds.length) (d := dd) hk2
        rw [List.take_of_length_le (by simp [HS.out.len]; omega)] at e
        have e2 := val_take_more hk3
        rw [List.take_of_length_le (by omega)] at e2
        have e3 := HS.out.done
        rw [val_take_all (xs := ds) (k := ds.length) (Nat.le_refl _)] at e3
        rw [e, val_snoc, List.length_take, Nat.min_eq_left (by omega), e2, Nat.pow_succ]
        generalize 4294967296 ^ ds.length = P at *
        have e4 : P * (dd + b) = P * (ps[ds.length] + 4294967296 * nn) := by rw [h3]
        rw [Nat.mul_add, Nat.mul_add, ← Nat.mul_assoc] at e4
        omega
      have F := Hd (hfin _ _ (Nat.mod_lt _ (by omega)) k3)
      generalize ps[ds.length] = x at hcell hx k1 k2 F
      have K1 := Hd k1
      clear HS hfin k3 k1
      by_cases hneg : x < b
      · rw [if_pos hneg] at k2 F
        go_wp2_with fail
        go_ret
        obtain ⟨f1, f2, f3, f4, f5⟩ := F.out
        exact ⟨_, true, rfl, f1, f2, by rw [K1.out]; exact f3, by rw [K1.out]; exact f4, f5⟩
      · rw [if_neg hneg] at F
        have e1 : (x : Int) - (b : Int) = (((x + 4294967296 - b) % 4294967296 : Nat) : Int) := by omega
        have e2 : ((x : Int) - (b : Int)) / 9223372036854775808 = 0 := by omega
        have E1 := Hd e1
        clear e1 k2 K1
        go_wp2_with fail
        go_ret
        obtain ⟨f1, f2, f3, f4, f5⟩ := F.out
        exact ⟨_, false, rfl, f1, f2, by rw [E1.out]; exact f3, by rw [E1.out]; exact f4, f5⟩
/- Division by the first digits: the guess is at most one too great. Plain, no program in sight. -/

structure Digits2 (top d2 P Dr head u2 Ur D U : Nat) : Prop where
  hD : D = (top * 4294967296 + d2) * P + Dr
  hDr : Dr < P
  hd2 : d2 < 4294967296
  htop : 2147483648 ≤ top
  htop2 : top < 4294967296
  hU : U = (head * 4294967296 + u2) * P + Ur
  hUr : Ur < P
  hu2 : u2 < 4294967296
  hlt : U < 4294967296 * D

section
variable {top d2 P Dr head u2 Ur D U : Nat}
theorem Digits2.posP (h : Digits2 top d2 P Dr head u2 Ur D U) : 0 < P := by have := h.hDr; omega
theorem Digits2.leD (h : Digits2 top d2 P Dr head u2 Ur D U) : (top * 4294967296 + d2) * P ≤ D := by rw [h.hD]; omega
theorem Digits2.ltU (h : Digits2 top d2 P Dr head u2 Ur D U) : U < (head * 4294967296 + u2 + 1) * P := by
  have := h.hUr
  rw [h.hU, Nat.add_mul _ 1 P]; omega
theorem Digits2.start (h : Digits2 top d2 P Dr head u2 Ur D U) : U < (head / top + 1) * D := by
  have h1 : head + 1 ≤ (head / top + 1) * top := by
    have e := Nat.div_add_mod head top
    have e2 := Nat.mod_lt head (show 0 < top by have := h.htop; omega)
    rw [Nat.add_mul, Nat.one_mul, Nat.mul_comm (head / top)]; omega
  have h2 : (head * 4294967296 + u2 + 1) ≤ (head / top + 1) * (top * 4294967296 + d2) := by
    have e : (head + 1) * 4294967296 ≤ (head / top + 1) * top * 4294967296 := Nat.mul_le_mul_right _ h1
    have e2 : (head / top + 1) * (top * 4294967296 + d2) = (head / top + 1) * top * 4294967296 + (head / top + 1) * d2 := by rw [Nat.mul_add, Nat.mul_assoc]
    have := h.hu2
    rw [e2]; omega
  have h3 := Nat.mul_le_mul_right P h2
  have h4 := Nat.mul_le_mul_left (head / top + 1) h.leD
  have h5 := h.ltU
  rw [Nat.mul_assoc] at h3
  omega
theorem Digits2.less (h : Digits2 top d2 P Dr head u2 Ur D U) {g rest : Nat} (hg : g * top + rest = head) (hc : 4294967296 ≤ g ∨ rest * 4294967296 + u2 < g * d2) : U < g * D := by
  rcases hc with hc | hc
  · have := Nat.mul_le_mul_right D hc
    have := h.hlt
    omega
  · have h2 : head * 4294967296 + u2 + 1 ≤ g * (top * 4294967296 + d2) := by
      have e2 : g * (top * 4294967296 + d2) = g * top * 4294967296 + g * d2 := by rw [Nat.mul_add, Nat.mul_assoc]
      rw [e2, ← hg]
      generalize g * top = a at *
      generalize g * d2 = c at *
      omega
    have h3 := Nat.mul_le_mul_right P h2
    have h4 := Nat.mul_le_mul_left g h.leD
    have h5 := h.ltU
    rw [Nat.mul_assoc] at h3
    omega
theorem Digits2.head_lt (h : Digits2 top d2 P Dr head u2 Ur D U) : head < 4294967296 * (top + 1) := by
  have h1 : head * 4294967296 * P ≤ U := by
    rw [h.hU, Nat.add_mul]; omega
  have h2 : D < (top + 1) * 4294967296 * P := by
    have e : (top * 4294967296 + d2 + 1) * P ≤ (top + 1) * 4294967296 * P := Nat.mul_le_mul_right P (by have := h.hd2; omega)
    have := h.hDr
    rw [h.hD]
    rw [Nat.add_mul _ 1 P] at e
    omega
  have h3 : 4294967296 * D ≤ 4294967296 * ((top + 1) * 4294967296 * P) := Nat.mul_le_mul_left _ (Nat.le_of_lt h2)
  have h4 := h.hlt
  have h5 : head * 4294967296 * P < 4294967296 * (top + 1) * 4294967296 * P := by
    have e : 4294967296 * ((top + 1) * 4294967296 * P) = 4294967296 * (top + 1) * 4294967296 * P := by simp only [Nat.mul_assoc]
    omega
  have h6 := Nat.lt_of_mul_lt_mul_right h5
  omega
theorem Digits2.brk (h : Digits2 top d2 P Dr head u2 Ur D U) {g rest : Nat} (hg : g * top + rest = head) (hr : 4294967296 ≤ rest + top) : g ≤ 4294967296 := by
  rcases Nat.lt_or_ge 4294967296 g with h1 | h1
  · exfalso
    have e := Nat.mul_le_mul_right top (show 4294967297 ≤ g from h1)
    have e2 := h.head_lt
    omega
  · exact h1
theorem Digits2.done (h : Digits2 top d2 P Dr head u2 Ur D U) {g rest : Nat} (hg : g * top + rest = head) (hgB : g < 4294967296) (hc : 4294967296 ≤ rest ∨ g * d2 ≤ rest * 4294967296 + u2) : g * D < U + D := by
  have h1 : g * d2 ≤ rest * 4294967296 + u2 := by
    rcases hc with hc | hc
    · have e : g * d2 ≤ 4294967295 * 4294967295 := Nat.mul_le_mul (by omega) (by have := h.hd2; omega)
      omega
    · exact hc
  have h2 : g * (top * 4294967296 + d2) ≤ head * 4294967296 + u2 := by
    have e2 : g * (top * 4294967296 + d2) = g * top * 4294967296 + g * d2 := by rw [Nat.mul_add, Nat.mul_assoc]
    rw [e2, ← hg]
    generalize g * top = a at *
    generalize g * d2 = c at *
    omega
  have h3 := Nat.mul_le_mul_right P h2
  have h4 : g * Dr ≤ 4294967295 * P := Nat.mul_le_mul (by omega) (Nat.le_of_lt h.hDr)
  have h5 : g * D = g * (top * 4294967296 + d2) * P + g * Dr := by rw [h.hD, Nat.mul_add, Nat.mul_assoc]
  have h6 : 4294967296 * P ≤ D := by
    have e : 4294967296 * P ≤ (top * 4294967296 + d2) * P := Nat.mul_le_mul_right P (by have := h.htop; omega)
    exact Nat.le_trans e h.leD
  have h7 := h.posP
  have h8 : (head * 4294967296 + u2) * P ≤ U := by rw [h.hU]; omega
  omega
end
end Go.Proofs.YtmcnmoljliggfaaGreatDoor
