/- Several texts in one: DivLaw, Twin2, DivRows, Divide, Own. -/
import Derived.Test.YtmcnmoljliggfaaGreatDoorBt08
import Derived.WalkMore
import Derived.Deep.RegionWith
import Derived.Deep.DeepCutAuto
import Derived.Deep.CutBlock
import Derived.Test.YtmcnmoljliggfaaGreatDoorBt06
set_option maxRecDepth 100000
set_option maxHeartbeats 8000000
/- Long division by limbs: plain, no program in sight. -/
namespace Go.Proofs.YtmcnmoljliggfaaGreatDoor

theorem val_take2 {xs : List Nat} {m : Nat} (h : xs.length = m + 2) : val xs = (xs[m + 1] * 4294967296 + xs[m]) * 4294967296 ^ m + val (xs.take m) := by
  have e1 := val_take_more (xs := xs) (k := m + 1) (by omega)
  have e2 := val_take_more (xs := xs) (k := m) (by omega)
  rw [List.take_of_length_le (by omega)] at e1
  rw [e1, e2, Nat.pow_succ, Nat.add_mul]
  have a1 : 4294967296 ^ m * 4294967296 * xs[m + 1] = xs[m + 1] * 4294967296 * 4294967296 ^ m := by rw [Nat.mul_right_comm, Nat.mul_comm (4294967296 ^ m), Nat.mul_right_comm]
  have a2 : 4294967296 ^ m * xs[m] = xs[m] * 4294967296 ^ m := Nat.mul_comm _ _
  omega
theorem val_take3 {xs : List Nat} {m : Nat} (h : xs.length = m + 3) : val xs = ((xs[m + 2] * 4294967296 + xs[m + 1]) * 4294967296 + xs[m]) * 4294967296 ^ m + val (xs.take m) := by
  have e1 := val_take_more (xs := xs) (k := m + 2) (by omega)
  rw [List.take_of_length_le (by omega)] at e1
  have e2 := val_take2 (xs := xs.take (m + 2)) (m := m) (by simp [List.length_take]; omega)
  simp only [List.getElem_take, List.take_take, Nat.min_eq_left (show m ≤ m + 2 by omega)] at e2
  rw [e1, e2]
  have a1 : 4294967296 ^ (m + 2) * xs[m + 2] = xs[m + 2] * 4294967296 * 4294967296 * 4294967296 ^ m := by
    rw [Nat.pow_succ, Nat.pow_succ]
    generalize 4294967296 ^ m = P
    generalize xs[m + 2] = x
    grind
  simp only [Nat.add_mul] at *
  omega
theorem digits_of {ds ps : List Nat} {m : Nat} (hd : ds.length = m + 2) (hp : ps.length = m + 3) (hdl : Limbs ds) (hpl : Limbs ps) (htop : 2147483648 ≤ ds[m + 1]) (hlt : val ps < 4294967296 * val ds) :
    Digits2 ds[m + 1] ds[m] (4294967296 ^ m) (val (ds.take m)) (ps[m + 2] * 4294967296 + ps[m + 1]) ps[m] (val (ps.take m)) (val ds) (val ps) := by
  refine ⟨val_take2 hd, ?_, limbs_get hdl _, htop, limbs_get hdl _, val_take3 hp, ?_, limbs_get hpl _, hlt⟩
  · have := val_lt (limbs_take hdl m)
    rwa [List.length_take, Nat.min_eq_left (by omega)] at this
  · have := val_lt (limbs_take hpl m)
    rwa [List.length_take, Nat.min_eq_left (by omega)] at this

structure Guess (top head D U g r : Nat) : Prop where
  eq : g * top + r = head
  small : r < 4294967296
  high : U < (g + 1) * D
section
variable {top d2 P Dr head u2 Ur D U : Nat}
theorem Digits2.guess0 (h : Digits2 top d2 P Dr head u2 Ur D U) : Guess top head D U (head / top) (head % top) :=
  ⟨by rw [Nat.mul_comm]; exact Nat.div_add_mod head top, by have := Nat.mod_lt head (show 0 < top by have := h.htop; omega); have := h.htop2; omega, h.start⟩
structure Guessed (D U g : Nat) : Prop where
  limb : g < 4294967296
  high : U < (g + 1) * D
  low : g * D < U + D
theorem Digits2.stop (h : Digits2 top d2 P Dr head u2 Ur D U) {g r : Nat} (k : Guess top head D U g r) (h1 : g < 4294967296) (h2 : g * d2 ≤ r * 4294967296 + u2) : Guessed D U g :=
  ⟨h1, k.high, h.done k.eq h1 (.inr h2)⟩
theorem Digits2.down (h : Digits2 top d2 P Dr head u2 Ur D U) {g r : Nat} (k : Guess top head D U g r) (hc : 4294967296 ≤ g ∨ r * 4294967296 + u2 < g * d2) :
    1 ≤ g ∧ (r + top < 4294967296 → Guess top head D U (g - 1) (r + top)) ∧ (4294967296 ≤ r + top → Guessed D U (g - 1)) := by
  have hl := h.less k.eq hc
  have hg : 1 ≤ g := by
    rcases Nat.eq_zero_or_pos g with rfl | h0
    · omega
    · exact h0
  obtain ⟨g, rfl⟩ : ∃ g', g = g' + 1 := ⟨g - 1, by omega⟩
  have e : g * top + (r + top) = head := by have := k.eq; rw [Nat.add_mul] at this; omega
  refine ⟨hg, fun hr => ⟨by simpa using e, hr, by simpa using hl⟩, fun hr => ?_⟩
  have hb := h.brk k.eq hr
  exact ⟨by simp; omega, by simpa using hl, by simpa using h.done e (by omega) (.inl hr)⟩
end

structure Dv (zl0 zs qs : List Nat) (Y k : Nat) : Prop where
  len : zs.length = zl0.length
  limbs : Limbs zs
  limbsq : Limbs qs
  same : zs.take k = zl0.take k
  eq : val (qs.drop k) * Y + val (zs.drop k) = val (zl0.drop k)
  lt : val (zs.drop k) < Y
theorem drop_pre (pre mid : List Nat) (i : Nat) (h : pre.length = i) : (pre ++ mid).drop i = mid := by
  subst h; simp
theorem Dv.part {zl0 pre ps post qs : List Nat} {Y i D : Nat} (h : Dv zl0 (pre ++ ps ++ post) qs Y (i + 1)) (hpre : pre.length = i) (hps : ps.length = D + 1) (hY : Y < 4294967296 ^ D) :
    val post = 0 ∧ val ps < 4294967296 * Y ∧ Limbs ps ∧ val ps = val ((pre ++ ps ++ post).drop i) := by
  have hl := h.limbs
  rw [List.append_assoc, limbs_append, limbs_append] at hl
  have e0 : (pre ++ ps ++ post).drop i = ps ++ post := by rw [List.append_assoc, drop_pre _ _ _ hpre]
  obtain ⟨p, pt, rfl⟩ : ∃ p pt, ps = p :: pt := by
    match ps, hps with
    | p :: pt, _ => exact ⟨p, pt, rfl⟩
  have e1 : (pre ++ (p :: pt) ++ post).drop (i + 1) = pt ++ post := by
    have := congrArg (List.drop 1) e0
    rw [List.drop_drop] at this
    simpa using this
  have hlt := h.lt
  rw [e1, val_append] at hlt
  have hpt : pt.length = D := by simpa using hps
  rw [hpt] at hlt
  have hz : val post = 0 := by
    rcases Nat.eq_zero_or_pos (val post) with h0 | h0
    · exact h0
    · exfalso
      have h1 : 4294967296 ^ D ≤ 4294967296 ^ D * val post := Nat.le_mul_of_pos_right _ h0
      generalize 4294967296 ^ D = P at h1 hY hlt
      omega
  rw [hz, Nat.mul_zero, Nat.add_zero] at hlt
  have hp := hl.2.1 p (by simp)
  refine ⟨hz, ?_, hl.2.1, ?_⟩
  · simp only [val]
    clear hY hz e0 e1
    omega
  · rw [e0, val_append, hz, Nat.mul_zero, Nat.add_zero]
theorem Dv.step {zl0 pre ps ps' post qs : List Nat} {Y i D q : Nat} (h : Dv zl0 (pre ++ ps ++ post) qs Y (i + 1)) (hpre : pre.length = i) (hps : ps.length = D + 1) (hY : Y < 4294967296 ^ D)
    (hps' : ps'.length = ps.length) (hl' : Limbs ps') (hq : q < 4294967296) (hv : val ps' + q * Y = val ps) (hlt : val ps' < Y) (hi : i < qs.length) :
    Dv zl0 (pre ++ ps' ++ post) (qs.set i q) Y i := by
  obtain ⟨hz, -, -, hval⟩ := h.part hpre hps hY
  have hl := h.limbs
  rw [List.append_assoc, limbs_append, limbs_append] at hl
  have hlen := h.len
  have hi2 : i < (pre ++ ps ++ post).length := by simp; omega
  have hi3 : i < zl0.length := by rw [← hlen]; exact hi2
  have hat : (pre ++ ps ++ post)[i] = zl0[i] := by
    have e := congrArg (fun l : List Nat => l[i]?) h.same
    simp only [List.getElem?_take, if_pos (Nat.lt_succ_self i)] at e
    rw [List.getElem?_eq_getElem hi2, List.getElem?_eq_getElem hi3] at e
    exact Option.some.inj e
  have e0 : val ((pre ++ ps' ++ post).drop i) = val ps' := by rw [List.append_assoc, drop_pre _ _ _ hpre, val_append, hz, Nat.mul_zero, Nat.add_zero]
  refine ⟨?_, ?_, limbs_set h.limbsq hq, ?_, ?_, by rw [e0]; exact hlt⟩
  · rw [← hlen]; simp [hps']
  · rw [List.append_assoc, limbs_append, limbs_append]; exact ⟨hl.1, hl', hl.2.2⟩
  · have e := congrArg (List.take i) h.same
    rw [List.take_take, List.take_take, Nat.min_eq_left (by omega)] at e
    rw [← e, List.append_assoc, List.append_assoc, ← hpre, List.take_left, List.take_left]
  · rw [e0, val_drop_set hi, val_drop_more hi3]
    have e1 := h.eq
    have e2 : val ps = zl0[i] + 4294967296 * val ((pre ++ ps ++ post).drop (i + 1)) := by rw [hval, val_drop_more hi2, hat]
    rw [Nat.add_mul, Nat.mul_assoc]
    omega

theorem down_step {V k n : Nat} (r0 r1 rest : Nat) (hn : n ≤ 32) (hV : V / 4294967296 ^ k = r0 + 4294967296 * (r1 + 4294967296 * rest)) :
    V / 2 ^ n % 4294967296 ^ (k + 1) = V / 2 ^ n % 4294967296 ^ k + 4294967296 ^ k * ((r1 * 4294967296 + r0) / 2 ^ n % 4294967296) := by
  have e1 : V / 2 ^ n / 4294967296 ^ k = V / 4294967296 ^ k / 2 ^ n := by rw [Nat.div_div_eq_div_mul, Nat.div_div_eq_div_mul, Nat.mul_comm]
  rw [Nat.pow_succ, Nat.mod_mul, e1, hV]
  have e2 : r0 + 4294967296 * (r1 + 4294967296 * rest) = (r1 * 4294967296 + r0) + 2 ^ n * (2 ^ (32 - n) * (4294967296 * rest)) := by
    rw [← Nat.mul_assoc (2 ^ n), ← Nat.pow_add, show n + (32 - n) = 32 by omega]
    omega
  rw [e2, Nat.add_mul_div_left _ _ (Nat.two_pow_pos n)]
  have e3 : 2 ^ (32 - n) * (4294967296 * rest) = 4294967296 * (2 ^ (32 - n) * rest) := Nat.mul_left_comm _ _ _
  rw [e3, Nat.add_mul_mod_self_left]
theorem val_div_drop (xs : List Nat) (hx : Limbs xs) (k : Nat) (hk : k ≤ xs.length) : val xs / 4294967296 ^ k = val (xs.drop k) := by
  rw [val_part xs k hk, Nat.add_mul_div_left _ _ (Nat.pow_pos (by omega)), Nat.div_eq_of_lt, Nat.zero_add]
  have := val_lt (limbs_take hx k)
  rwa [List.length_take, Nat.min_eq_left hk] at this
theorem val_drop_two (xs : List Nat) (k : Nat) (hk : k < xs.length) : val (xs.drop k) = xs[k] + 4294967296 * (at0 xs (k + 1) + 4294967296 * val (xs.drop (k + 2))) := by
  rw [val_drop_more hk]
  rcases Nat.lt_or_ge (k + 1) xs.length with h | h
  · rw [val_drop_more h, at0_lt h]
  · rw [List.drop_of_length_le h, List.drop_of_length_le (by omega), at0_ge h]; simp [val]
structure Downed (r0 zs : List Nat) (n k : Nat) : Prop where
  len : zs.length = r0.length
  limbs : Limbs zs
  rest : zs.drop k = r0.drop k
  done : val (zs.take k) = val r0 / 2 ^ n % 4294967296 ^ k
theorem Downed.step {r0 zs : List Nat} {n k : Nat} (h : Downed r0 zs n k) (hr : Limbs r0) (hn : n ≤ 32) (hk : k < r0.length) :
    Downed r0 (zs.set k ((at0 r0 (k + 1) * 4294967296 + r0[k]) / 2 ^ n % 4294967296)) n (k + 1) := by
  have hk2 : k < zs.length := by rw [h.len]; exact hk
  refine ⟨by simp [h.len], limbs_set h.limbs (Nat.mod_lt _ (by omega)), drop_set_next h.rest, ?_⟩
  rw [set_take_more hk2, val_snoc, List.length_take, Nat.min_eq_left (by omega), h.done, down_step r0[k] (at0 r0 (k + 1)) (val (r0.drop (k + 2))) hn (by rw [val_div_drop _ hr _ (by omega), val_drop_two _ _ hk])]
theorem Downed.start (r0 : List Nat) (hr : Limbs r0) (n : Nat) : Downed r0 r0 n 0 := ⟨rfl, hr, rfl, by simp [val, Nat.mod_one]⟩
theorem Downed.val_end {r0 zs : List Nat} {n : Nat} (h : Downed r0 zs n r0.length) (hr : Limbs r0) : val zs = val r0 / 2 ^ n := by
  have e := h.done
  rw [List.take_of_length_le (by rw [h.len]; omega)] at e
  rw [e, Nat.mod_eq_of_lt]
  exact Nat.lt_of_le_of_lt (Nat.div_le_self _ _) (val_lt hr)

structure Lifted (ys : List Nat) (n m : Nat) : Prop where
  hn : n ≤ 31
  low : 2147483648 * 4294967296 ^ m ≤ val ys * 2 ^ n
  high : val ys * 2 ^ n < 4294967296 ^ (m + 1)
theorem lifted {ys : List Nat} {m : Nat} (hy : Limbs ys) (hl : ys.length = m + 1) (n b : Nat) (hb : n + b = 32) (h1 : 2 ^ b ≤ 2 * ys[m]) (h2 : ys[m] < 2 ^ b) (hb0 : 1 ≤ b) : Lifted ys n m := by
  have e := val_take_more (xs := ys) (k := m) (by omega)
  rw [List.take_of_length_le (by omega)] at e
  have hlt := val_lt (limbs_take hy m)
  rw [List.length_take, Nat.min_eq_left (by omega)] at hlt
  have hp : 2 ^ b * 2 ^ n = 4294967296 := by rw [← Nat.pow_add, show b + n = 32 by omega]
  refine ⟨by omega, ?_, ?_⟩
  · have a1 : 2 ^ b * 2 ^ n ≤ 2 * ys[m] * 2 ^ n := Nat.mul_le_mul_right _ h1
    have a2 : 2147483648 ≤ ys[m] * 2 ^ n := by rw [hp, Nat.mul_assoc] at a1; omega
    have a3 := Nat.mul_le_mul_right (4294967296 ^ m) a2
    have a4 : ys[m] * 2 ^ n * 4294967296 ^ m = 4294967296 ^ m * ys[m] * 2 ^ n := by rw [Nat.mul_comm (4294967296 ^ m), Nat.mul_right_comm]
    have a5 : 4294967296 ^ m * ys[m] * 2 ^ n ≤ val ys * 2 ^ n := Nat.mul_le_mul_right _ (by omega)
    omega
  · have a1 : val ys + 1 ≤ 4294967296 ^ m * 2 ^ b := by
      have := Nat.mul_le_mul_left (4294967296 ^ m) (show ys[m] + 1 ≤ 2 ^ b from h2)
      rw [Nat.mul_add] at this
      omega
    have a2 := Nat.mul_le_mul_right (2 ^ n) a1
    rw [Nat.mul_assoc, hp, Nat.add_mul, ← Nat.pow_succ] at a2
    have := Nat.two_pow_pos n
    omega
theorem Dv.start {xs ys zl0 : List Nat} {n m : Nat} (h : Lifted ys n m) (hx : Limbs xs) (hxl : m + 1 ≤ xs.length) (hzl : zl0.length = xs.length + 1) (hz : Limbs zl0) (hzv : val zl0 = val xs * 2 ^ n) (qs : List Nat) (hq : Limbs qs) (hql : qs.length = xs.length - m) :
    Dv zl0 zl0 qs (val ys * 2 ^ n) (xs.length - m) := by
  refine ⟨rfl, hz, hq, rfl, by rw [List.drop_of_length_le (by omega)]; simp [val], ?_⟩
  have h1 := val_part zl0 (xs.length - m) (by omega)
  have h2 : val (zl0.drop (xs.length - m)) * 4294967296 ^ (xs.length - m) < 4294967296 ^ xs.length * 2 ^ n := by
    have := Nat.mul_lt_mul_of_pos_right (val_lt hx) (Nat.two_pow_pos n)
    rw [Nat.mul_comm]
    omega
  have h3 : 4294967296 ^ xs.length = 4294967296 ^ m * 4294967296 ^ (xs.length - m) := by rw [← Nat.pow_add, show m + (xs.length - m) = xs.length by omega]
  rw [h3, Nat.mul_right_comm] at h2
  have h4 := Nat.lt_of_mul_lt_mul_right h2
  have h5 : 2 ^ n ≤ 2 ^ 31 := Nat.pow_le_pow_right (by omega) h.hn
  have h6 := Nat.mul_le_mul_left (4294967296 ^ m) h5
  have := h.low
  omega
theorem Dv.stop {zl0 zs qs : List Nat} {X Y n : Nat} (h : Dv zl0 zs qs (Y * 2 ^ n) 0) (hv : val zl0 = X * 2 ^ n) : val qs = X / Y ∧ val zs = X % Y * 2 ^ n := by
  have e := h.eq
  have hl := h.lt
  simp only [List.drop_zero] at e hl
  rw [hv] at e
  have hp := Nat.two_pow_pos n
  have hY : 0 < Y := by
    rcases Nat.eq_zero_or_pos Y with rfl | h0
    · simp at hl
    · exact h0
  have e1 : X * 2 ^ n / (Y * 2 ^ n) = X / Y := Nat.mul_div_mul_right _ _ hp
  have e2 : X * 2 ^ n % (Y * 2 ^ n) = X % Y * 2 ^ n := Nat.mul_mod_mul_right _ _ _
  rw [← e1, ← e2, ← e]
  have hpos : 0 < Y * 2 ^ n := Nat.mul_pos hY hp
  constructor
  · rw [Nat.add_comm, Nat.add_mul_div_right _ _ hpos, Nat.div_eq_of_lt hl, Nat.zero_add]
  · rw [Nat.mul_add_mod_self_right, Nat.mod_eq_of_lt hl]
/- More of copies and sizes, for the laws' walks. -/
open Go.RowKit

theorem keep_of {W w' : World} (q : Below W.heap.size W w') : Below W.heap.size W w' ∧ ∀ b o, b < W.heap.size → w'.cell? ⟨b, o, none⟩ = W.cell? ⟨b, o, none⟩ :=
  ⟨q, fun b o h => q.cell (p := ⟨b, o, none⟩) h⟩

/- For divide of package exact: its blocks, the divisor added back. -/

theorem bits_Lead (t b : Nat) (ht : t < 4294967296) (hb : b = 32 - Lib.bitLen t) (hb2 : Lib.bitLen t ≤ 32) (w : World) :
    Calls Tryz.prog 125 #[.int .u32 t] w fun e w' => e = .returned (.int .i64 b) ∧ w = w' := by
  refine (Tryz.bits_LeadingZeros32 t w (by omega) (by omega)).mono ?_
  rintro e w' ⟨rfl, rfl⟩
  refine ⟨?_, rfl⟩
  rw [Int.toNat_natCast, hb]
  have : (32 : Int) - (Lib.bitLen t : Int) = ((32 - Lib.bitLen t : Nat) : Int) := by omega
  rw [this]
theorem bitLen32 (t : Nat) (ht : t < 4294967296) (h0 : t ≠ 0) : Lib.bitLen t ≤ 32 ∧ 1 ≤ Lib.bitLen t ∧ 2 ^ Lib.bitLen t ≤ 2 * t ∧ t < 2 ^ Lib.bitLen t := by
  have h1 : t < 2 ^ Lib.bitLen t := bla_lt 64 t (by omega)
  have hpos : 1 ≤ Lib.bitLen t := by
    rcases Nat.eq_zero_or_pos (Lib.bitLen t) with h | h
    · rw [h] at h1; omega
    · exact h
  have h2 := bla_ge 64 t (Lib.bitLen t - 1) (by show Lib.bitLen t - 1 < Lib.bitLen t; omega)
  have e : 2 ^ Lib.bitLen t = 2 * 2 ^ (Lib.bitLen t - 1) := by
    rw [← Nat.pow_succ', show (Lib.bitLen t - 1).succ = Lib.bitLen t by omega]
  refine ⟨?_, hpos, by omega, h1⟩
  rcases Nat.lt_or_ge 32 (Lib.bitLen t) with h | h
  · have : 2 ^ 32 ≤ 2 ^ (Lib.bitLen t - 1) := Nat.pow_le_pow_right (by omega) (by omega)
    omega
  · exact h

theorem cut_top {zd : List Nat} {k : Nat} (h : zd.length = k + 1) (hl : Limbs zd) (hv : val zd < 4294967296 ^ k) : ∃ ds, zd = ds ++ [0] ∧ ds.length = k ∧ Limbs ds ∧ val ds = val zd := by
  have e := List.take_append_drop k zd
  have e2 : zd.drop k = [zd[k]] := by
    rw [List.drop_eq_getElem_cons (by omega), List.drop_of_length_le (by omega)]
  have hv2 := val_take_more (xs := zd) (k := k) (by omega)
  rw [List.take_of_length_le (by omega)] at hv2
  have h0 : zd[k] = 0 := by
    rcases Nat.eq_zero_or_pos zd[k] with h | h
    · exact h
    · exfalso
      have := Nat.le_mul_of_pos_right (4294967296 ^ k) h
      generalize 4294967296 ^ k = P at *
      omega
  rw [h0, Nat.mul_zero, Nat.add_zero] at hv2
  rw [h0] at e2
  refine ⟨zd.take k, by rw [← e2, e], by simp [List.length_take]; omega, limbs_take hl k, hv2.symm⟩
theorem top_big {ds : List Nat} {k : Nat} (h : ds.length = k + 1) (hl : Limbs ds) (hv : 2147483648 * 4294967296 ^ k ≤ val ds) : 2147483648 ≤ ds[k] := by
  have hv2 := val_take_more (xs := ds) (k := k) (by omega)
  rw [List.take_of_length_le (by omega)] at hv2
  have h1 := val_lt (limbs_take hl k)
  rw [List.length_take, Nat.min_eq_left (by omega)] at h1
  generalize ds[k] = t at *
  rcases Nat.lt_or_ge t 2147483648 with h2 | h2
  · exfalso
    have h3 := Nat.mul_le_mul_left (4294967296 ^ k) (show t + 1 ≤ 2147483648 from h2)
    rw [Nat.mul_add, Nat.mul_one, Nat.mul_comm _ 2147483648] at h3
    generalize 4294967296 ^ k * t = a at *
    generalize 4294967296 ^ k = P at *
    omega
  · exact h2
theorem split3 (zs : List Nat) (i n : Nat) (h : i + n ≤ zs.length) : ∃ pre ps post, zs = pre ++ ps ++ post ∧ pre.length = i ∧ ps.length = n :=
  ⟨zs.take i, (zs.drop i).take n, (zs.drop i).drop n, by rw [List.append_assoc, List.take_append_drop, List.take_append_drop], by simp [List.length_take]; omega, by simp [List.length_take]; omega⟩

theorem grown_drewN {w0 w : World} {row : Option Nat} (h : w0.grownBy w row) (n : Nat) : w0.grownBy (w.drewN n) row := ⟨h.os, h.tape, h.output, h.size, h.block⟩

theorem down_digit (N n : Nat) : (N : Int) / 2 ^ n % 4294967296 = ((N / 2 ^ n % 4294967296 : Nat) : Int) := by simp
theorem Row.far {w : World} {g : Nat} {zs : List Nat} (h : Row w g zs) {p : Addr} (hp : g ≠ p.block) (u : Value) : Row (w.setCell p u) g zs := ⟨h.blk.far hp u⟩

structure Rows3 (w wr : World) (gl gq gd : Nat) (zs qs ds : List Nat) : Prop where
  rl : Row wr gl zs
  rq : Row wr gq qs
  rd : Row wr gd (ds ++ [0])
  low : Below w.heap.size w wr
  nlq : gl ≠ gq
  ndq : gd ≠ gq
  nld : gl ≠ gd
  bl : w.heap.size ≤ gl
  bq : w.heap.size ≤ gq
section
variable {w wr wr' : World} {gl gq gd : Nat} {zs qs ds : List Nat}
theorem Rows3.stays (h : Rows3 w wr gl gq gd zs qs ds) (hg : wr.grownBy wr' none) : Rows3 w wr' gl gq gd zs qs ds :=
  ⟨h.rl.stays hg (by simp), h.rq.stays hg (by simp), h.rd.stays hg (by simp), h.low.grown hg h.low.size (fun k hk => by cases hk), h.nlq, h.ndq, h.nld, h.bl, h.bq⟩
theorem Rows3.lessed {zs' : List Nat} (h : Rows3 w wr gl gq gd zs qs ds) (hg : wr.grownBy wr' (some gl)) (hr : Row wr' gl zs') : Rows3 w wr' gl gq gd zs' qs ds :=
  ⟨hr, h.rq.stays hg (by have := h.nlq; simp; omega), h.rd.stays hg (by have := h.nld; simp; omega), h.low.grown hg h.low.size (fun k hk => by injection hk with hk; rw [← hk]; exact h.bl), h.nlq, h.ndq, h.nld, h.bl, h.bq⟩
theorem Rows3.setq (h : Rows3 w wr gl gq gd zs qs ds) (i d : Nat) : Rows3 w (wr.setCell ⟨gq, i, none⟩ (.int .u32 (d : Int))) gl gq gd zs (qs.set i d) ds :=
  ⟨h.rl.far h.nlq _, h.rq.set i d, h.rd.far h.ndq _, h.low.setCell (p := ⟨gq, i, none⟩) h.bq _, h.nlq, h.ndq, h.nld, h.bl, h.bq⟩
theorem Rows3.setl {pre ps post : List Nat} (h : Rows3 w wr gl gq gd (pre ++ ps ++ post) qs ds) {k : Nat} (hk : k < ps.length) (d : Nat) : Rows3 w (wr.setCell ⟨gl, pre.length + k, none⟩ (.int .u32 (d : Int))) gl gq gd (pre ++ ps.set k d ++ post) qs ds :=
  ⟨h.rl.mid_set hk d, h.rq.far (Ne.symm h.nlq) _, h.rd.far (Ne.symm h.nld) _, h.low.setCell (p := ⟨gl, pre.length + k, none⟩) h.bl _, h.nlq, h.ndq, h.nld, h.bl, h.bq⟩
end

structure Dw (w wr : World) (gl gq gd r : Nat) (zl0 ds : List Nat) (Y k : Nat) (zs qs : List Nat) : Prop where
  dv : Dv zl0 zs qs Y k
  rows : Rows3 w wr gl gq gd zs qs ds
  qlen : qs.length = r

structure Backed (w wv : World) (gl gq gd : Nat) (pre ps' post qs ds : List Nat) (k c : Nat) (ps'' : List Nat) : Prop where
  len : ps''.length = ps'.length
  limbs : Limbs ps''
  rows : Rows3 w wv gl gq gd (pre ++ ps'' ++ post) qs ds
  rest : ps''.drop k = ps'.drop k
  done : val (ps''.take k) + 4294967296 ^ k * c = val (ps'.take k) + val (ds.take k)
theorem Backed.step {w wv : World} {gl gq gd : Nat} {pre ps' post qs ds ps'' : List Nat} {k c : Nat} (h : Backed w wv gl gq gd pre ps' post qs ds k c ps'') (hk : k < ps'.length) (hkd : k < ds.length) (s : Nat) (hs : s = ps'[k] + ds[k] + c) :
    Backed w (wv.setCell ⟨gl, pre.length + k, none⟩ (.int .u32 ((s % 4294967296 : Nat) : Int))) gl gq gd pre ps' post qs ds (k + 1) (s / 4294967296) (ps''.set k (s % 4294967296)) := by
  have hk2 : k < ps''.length := by rw [h.len]; exact hk
  refine ⟨by simp [h.len], limbs_set h.limbs (Nat.mod_lt _ (by omega)), h.rows.setl hk2 _, drop_set_next h.rest, ?_⟩
  rw [set_take_more hk2, add_step (zs := ps''.take k) (k := k) (by rw [List.length_take]; omega) s h.done (ps'[k] + ds[k]) (by rw [hs]), val_take_more hk, val_take_more hkd, Nat.mul_add]
  omega
theorem back_val {F V U Y P g cc : Nat} (h1 : F + P * cc = V + Y) (h2 : V + g * Y = U + P) (hF : F < P) (hV : V < P) (hlow : g * Y < U + Y) (hcc : cc ≤ 1) : 1 ≤ g ∧ F + (g - 1) * Y = U ∧ F < Y := by
  have hg : 1 ≤ g := by
    rcases Nat.eq_zero_or_pos g with rfl | h
    · simp at h2; omega
    · exact h
  obtain ⟨g, rfl⟩ : ∃ g', g = g' + 1 := ⟨g - 1, by omega⟩
  rw [Nat.add_mul, Nat.one_mul] at h2 hlow
  have hc : cc = 1 := by
    rcases (by omega : cc = 0 ∨ cc = 1) with rfl | rfl
    · exfalso
      rw [Nat.mul_zero] at h1
      omega
    · rfl
  subst hc
  rw [Nat.mul_one] at h1
  simp only [Nat.add_sub_cancel]
  omega
theorem Backed.stop {w wv : World} {gl gq gd : Nat} {pre ps' post qs ds ps'' : List Nat} {c : Nat} (h : Backed w wv gl gq gd pre ps' post qs ds ds.length c ps'') (hl : ps'.length = ds.length + 1) (x : Nat) (hx : x = at0 ps' ds.length) :
    (ps''.set ds.length ((x + c) % 4294967296)).length = ps'.length ∧ Limbs (ps''.set ds.length ((x + c) % 4294967296)) ∧ Rows3 w (wv.setCell ⟨gl, pre.length + ds.length, none⟩ (.int .u32 (((x + c) % 4294967296 : Nat) : Int))) gl gq gd (pre ++ ps''.set ds.length ((x + c) % 4294967296) ++ post) qs ds ∧
      val (ps''.set ds.length ((x + c) % 4294967296)) + 4294967296 ^ (ds.length + 1) * ((x + c) / 4294967296) = val ps' + val ds := by
  have hk2 : ds.length < ps''.length := by rw [h.len]; omega
  have hk3 : ds.length < ps'.length := by omega
  refine ⟨by simp [h.len], limbs_set h.limbs (Nat.mod_lt _ (by omega)), h.rows.setl hk2 _, ?_⟩
  have e := set_take_more (zs := ps'') (k := ds.length) (d := (x + c) % 4294967296) hk2
  rw [List.take_of_length_le (by simp [h.len]; omega)] at e
  have e3 := h.done
  rw [val_take_all (xs := ds) (k := ds.length) (Nat.le_refl _)] at e3
  have e2 := val_take_more hk3
  rw [List.take_of_length_le (by omega), ← at0_lt hk3, ← hx] at e2
  rw [e, add_step (zs := ps''.take ds.length) (k := ds.length) (by rw [List.length_take]; omega) (x + c) e3 x rfl, e2]
  omega

/- divide of package exact: long division, its quotient and what is left. -/

theorem exact_divide (A B : Option Addr) (c d : Nat) (xs ys : List Nat) (m k r : Nat) (hkm : k = m + 1) (hxl : xs.length = k + r) (hr : 1 ≤ r) (hyl : ys.length = k + 1) (h0 : at0 ys k ≠ 0) (hl : xs.length ≤ 536870912) (w : World) (h : Raw w A c xs) (g : Raw w B d ys) :
    Calls Tryz.prog 121 #[.slice A (k + r) c, .slice B (k + 1) d] w fun e w' => ∃ gl gq cl zl zq, e = .returned (.tuple #[.slice (some ⟨gq, 0, none⟩) zq.length zq.length, .slice (some ⟨gl, 0, none⟩) zl.length cl]) ∧ gl ≠ gq ∧ w.heap.size ≤ gl ∧ w.heap.size ≤ gq ∧ Row w' gq zq ∧ Front w' gl cl zl ∧ Limbs zq ∧ Limbs zl ∧ val zq = val xs / val ys ∧ val zl = val xs % val ys ∧ zq.length ≤ xs.length ∧ zl.length = ys.length ∧ cl ≤ 9223372036854775807 ∧ Below w.heap.size w w' := by
  have HX := Hd h
  have HY := Hd g
  have HLX := Hd h.limbs
  have hc := h.cap
  have hm := h.most
  have hd := g.cap
  have hn := g.most
  rw [at0_lt (by omega)] at h0
  obtain ⟨ad, rfl, hbl, hcell⟩ := g.reads.get (k := k) (by omega)
  have hbk : (ad.add k).block < w.heap.size := by rw [block_of_add]; exact hbl
  have hty := limbs_get g.limbs (k := k) (by omega)
  obtain ⟨b1, b2, b3, b4⟩ := bitLen32 _ hty h0
  have hL := lifted (n := 32 - Lib.bitLen ys[k]) (m := k) g.limbs (by omega) (Lib.bitLen ys[k]) (by omega) b3 b4 b2
  have C0 := Hd (fun V => bits_Lead ys[k] _ hty rfl b1 V)
  generalize hnn : 32 - Lib.bitLen ys[k] = n at hL C0
  have hn31 := hL.hn
  have HL := Hd hL
  generalize ys[k] = t at hcell C0 hty
  have C1 := Hd (fun (V : World) (hV : Below w.heap.size w V) => by have := exact_up A c n xs hn31 (by omega) V (HX.out.below hV); rwa [hxl] at this)
  have C2 := Hd (fun (V : World) (hV : Below w.heap.size w V) => by have := exact_up (some ad) d n ys hn31 (by omega) V (HY.out.below hV); rwa [hyl] at this)
  clear h g h0 b1 b2 b3 b4 hL hnn
  rw [hxl] at hc hl
  rw [hyl] at hd
  have hkm2 : (k : Int) + 1 - 2 = (m : Int) := by omega
  have HKM := Hd hkm
  have HXL := Hd hxl
  have HYL := Hd hyl
  have hmax : max 0 ((k : Int) + (r : Int) + 1 - ((k : Int) + 1)) = (r : Int) := by omega
  have hs0 : (0 : Int) ≤ (k : Int) + 1 := by omega
  have hs1 : (k : Int) + 1 ≤ (k : Int) + 1 + 1 := by omega
  clear hkm hxl hyl
  obtain ⟨i0, hi, hz0, hz1, hz2⟩ := info_parts limbInfo
  have hmk : ∀ W : World, (Instr.makeSlice 23 (.int .i64 (r : Int)) (.int .i64 (r : Int))).run Tryz.prog W = .ok (.slice (some ⟨W.heap.size, 0, none⟩) r r) (W.alloc (.cells (madeCells #[.int .u32 0] r) 109)) := fun W => by
    have h := run_make_rowN (P := Tryz.prog) 23 109 i0 _ Tryz.underlying23 hi hz0 .i64 .i64 r r (by omega) (by rw [hz2]; omega) (by omega) W
    rw [hz1, Nat.mul_one] at h
    exact h
  go_enter Tryz.func121, Tryz.ntmps121
  go_wp2_with fail
  go_step3
  go_wp2_with (first | (go_at_call 125; with_reducible refine (C0.out _).mono ?_; rintro e w' ⟨rfl, rfl⟩))
  go_upto_region 2 with fail
  go_cut [1, 7] (fun s1 s7 wx => ∃ gl gd, s7 = .slice (some ⟨gl, 0, none⟩) (k + r + 1) (k + r + 1) ∧ s1 = .slice (some ⟨gd, 0, none⟩) (k + 1) (k + 1 + 1) ∧ w.heap.size ≤ gl ∧ gl < gd ∧ Below w.heap.size w wx ∧
    Hid (∃ zs, zs.length = k + r + 1 ∧ Limbs zs ∧ val zs = val xs * 2 ^ n ∧ Row wx gl zs) ∧ Hid (∃ zs, zs.length = k + 1 + 1 ∧ Limbs zs ∧ val zs = val ys * 2 ^ n ∧ Row wx gd zs))
  case first =>
    have qq : Below w.heap.size w w := Below.refl _ _
    clear hmk hz0 hz1 hz2 hi
    go_region_held3 (fun w' => Below w.heap.size w w' ∧ ∀ b o, b < w.heap.size → w'.cell? ⟨b, o, none⟩ = w.cell? ⟨b, o, none⟩)
      (((with_reducible refine keep_of ?_); (repeat' (with_reducible first | exact qb | exact qa | exact qq | refine Below.drew ?_))))
      (first
      | (go_at_call 126
         with_reducible refine (C1.out _ ?_).mono ?_
         with_reducible first | exact qq.drew
         rintro e wa ⟨gl, zl, rfl, n1, l1, m1, v1, r1, hba⟩
         have qa : Below w.heap.size w wa := by with_reducible first | exact belowTo qq.drew hba)
      | (go_at_call 126
         with_reducible refine (C2.out _ ?_).mono ?_
         with_reducible first | exact qa
         rintro e wb ⟨gd, zd, rfl, n2, l2, m2, v2, r2, hbb⟩
         have qb : Below w.heap.size w wb := by with_reducible first | exact belowTo qa hbb))
    all_goals (go_wp2_with fail; go_meet)
    all_goals exact ⟨gl, gd, rfl, rfl, n1, by have := r1.lt; omega, qb, Hd ⟨zl, l1, m1, v1, r1.below hbb⟩, Hd ⟨zd, l2, m2, v2, r2⟩⟩
  case rest =>
    obtain ⟨gl, gd, rfl, rfl, hgl, hgd, hb, HL0, HD0⟩ := hcut
    clear hcell hbk hbl C0 C1 C2 HX HY
    obtain ⟨zl0, hl1, hl2, hl3, hl4⟩ := HL0.out
    obtain ⟨zd, hd1, hd2, hd3, hd4⟩ := HD0.out
    clear HL0 HD0
    obtain ⟨ds, rfl, hdl, hdm, hdv⟩ := cut_top hd1 hd2 (by rw [hd3]; exact HL.out.high)
    rw [hd3] at hdv
    have htop := top_big hdl hdm (by rw [hdv]; exact HL.out.low)
    have hdc := hd4.head_cell (k := k) (by omega)
    have hgdlt := hd4.lt
    have hbt := limbs_get hdm (k := k) (by omega)
    rw [← at0_lt (by omega)] at htop hdc hbt
    have I0 : Dw w (wc.alloc (.cells (madeCells #[.int .u32 0] r) 109)) gl wc.heap.size gd r zl0 ds (val ys * 2 ^ n) r zl0 (List.replicate r 0) :=
      ⟨by have := Dv.start HL.out (xs := xs) (zl0 := zl0) HLX.out (by rw [HXL.out]; omega) (by rw [HXL.out]; exact hl1) hl2 hl3 (List.replicate r 0) (limbs_noughts _) (by rw [HXL.out]; simp); rw [HXL.out, Nat.add_sub_cancel_left] at this; exact this, ⟨hl4.alloc _, Row.made _ _, hd4.alloc _, hb.alloc hb.size _, by have := hl4.lt; omega, by omega, by omega, hgl, hb.size⟩, by simp⟩
    have H0 := Hd (⟨_, _, I0⟩ : ∃ zs qs, Dw w (wc.alloc (.cells (madeCells #[.int .u32 0] r) 109)) gl wc.heap.size gd r zl0 ds (val ys * 2 ^ n) r zs qs)
    have HDL := Hd hdl
    have HDM := Hd hdm
    have HDV := Hd hdv
    have HTOP := Hd htop
    have HL1 := Hd hl1
    have HL2 := Hd hl2
    have HL3 := Hd hl3
    have HNE : gl ≠ wc.heap.size ∧ gd ≠ wc.heap.size ∧ gl ≠ gd ∧ w.heap.size ≤ wc.heap.size := by have := hl4.lt; have := hb.size; omega
    have htop0 : (0 : Int) < ((at0 ds k : Nat) : Int) := by omega
    generalize htt : at0 ds k = tp at htop hdc hbt HTOP htop0
    have HTT := Hd htt
    clear I0 hd4 hl1 hl2 hl3 hl4 hdl hdm hdv hd1 hd2 hd3 htop htt
    go_wp2_with fail
    go_step3
    go_wp2_with fail
    have HGL : Hid (w.heap.size ≤ gl ∧ w.heap.size ≤ gd) := Hd ⟨hgl, by omega⟩
    clear hmax hs0 hs1 hmk hdc hgdlt hb hgl hgd
    generalize wc.heap.size = gq at HNE H0
    go_loopw [10] (fun s wr => ∃ (j : Nat) (i : Int), s = .int .i64 i ∧ i = (j : Int) - 1 ∧ j ≤ r ∧ Hid (∃ zs qs, Dw w wr gl gq gd r zl0 ds (val ys * 2 ^ n) j zs qs)) (fun s _ => (intOf s + 1).toNat)
    case atStart => exact ⟨r, _, rfl, rfl, Nat.le_refl _, H0⟩
    case round =>
      obtain ⟨j, i, rfl, hij, hj, HR⟩ := hrel
      clear H0
      obtain ⟨zs, qs, hdw⟩ := HR.out
      clear HR
      cases j with
      | zero =>
        obtain rfl : i = -1 := by omega
        clear hij
        obtain ⟨z1, z2⟩ := hdw.dv.stop HL3.out
        obtain ⟨zl, hzl, hzlen, hzm, hzv⟩ : ∃ zl, zs = zl ++ zs.drop (k + 1) ∧ zl.length = k + 1 ∧ Limbs zl ∧ val zl = val xs % val ys * 2 ^ n := by
          have hlt := hdw.dv.lt
          simp only [List.drop_zero] at hlt
          have hlen := hdw.dv.len
          rw [HL1.out] at hlen
          have e := val_part zs (k + 1) (by omega)
          refine ⟨zs.take (k + 1), (List.take_append_drop _ _).symm, by rw [List.length_take]; omega, limbs_take hdw.dv.limbs _, ?_⟩
          rw [← z2, e]
          rcases Nat.eq_zero_or_pos (val (zs.drop (k + 1))) with h | h
          · rw [h, Nat.mul_zero]; rfl
          · exfalso
            have h3 := Nat.le_mul_of_pos_right (4294967296 ^ (k + 1)) h
            have := HL.out.high
            omega
        have fr : Front wr gl (k + r + 1) zl := by
          have e := hdw.rows.rl.front
          rw [hdw.dv.len, HL1.out] at e
          have := e.cut (k + 1)
          have e3 : zs.take (k + 1) = zl := by rw [hzl, List.take_left' hzlen]
          rwa [e3] at this
        have D0 := Hd (⟨zl, Downed.start zl hzm n, fr, hdw.rows.rq, hdw.rows.low⟩ : ∃ zt, Downed zl zt n 0 ∧ Front wr gl (k + r + 1) zt ∧ Row wr gq qs ∧ Below w.heap.size w wr)
        have HZM := Hd hzm
        have HZV := Hd hzv
        have HZ1 := Hd z1
        have HQL := Hd (And.intro hdw.qlen hdw.dv.limbsq)
        have HZL := Hd hzlen
        have hs0 : (0 : Int) ≤ (k : Int) + 1 := by omega
        have hs1 : (k : Int) + 1 ≤ (k : Int) + (r : Int) + 1 := by omega
        clear hzl z1 z2 fr hdw hzm hzv hzlen
        go_wp2_with fail
        go_loopw [169] (fun s wv => ∃ kk : Nat, s = .int .i64 kk ∧ kk ≤ k + 1 ∧ Hid (∃ zt, Downed zl zt n kk ∧ Front wv gl (k + r + 1) zt ∧ Row wv gq qs ∧ Below w.heap.size w wv)) (fun s _ => k + 1 - (intOf s).toNat)
        case atStart => exact ⟨0, rfl, by omega, D0⟩
        case round =>
          obtain ⟨kk, rfl, hkk, HR⟩ := hrel
          clear D0
          obtain ⟨zt, dn, fr, rq, lo⟩ := HR.out
          clear HR
          by_cases hlt : kk < k + 1
          · have hk1 : kk < zl.length := by rw [HZL.out]; exact hlt
            have hk2 : kk < zt.length := by rw [dn.len]; exact hk1
            have c1 := fr.cell hk2
            have f1 := fr.frozen kk
            have q1 := fr.lt
            rw [list_same dn.rest hk2 hk1] at c1
            have x1 := limbs_get HZM.out hk1
            have st := dn.step HZM.out (by omega) hk1
            have x2 := at0_limb HZM.out (kk + 1)
            have c2 : kk + 1 < k + 1 → wr.cell? ⟨gl, kk + 1, none⟩ = some (.int .u32 ((at0 zl (kk + 1) : Nat) : Int)) := fun h => by
              have h1 : kk + 1 < zl.length := by rw [HZL.out]; exact h
              have h2 : kk + 1 < zt.length := by rw [dn.len]; exact h1
              have e := congrArg (List.drop 1) dn.rest
              rw [List.drop_drop, List.drop_drop] at e
              rw [fr.cell h2, list_same e h2 h1, at0_lt h1]
            have hz : ¬ kk + 1 < k + 1 → at0 zl (kk + 1) = 0 := fun h => at0_ge (by rw [HZL.out]; omega)
            have S := Hd (fun d => (⟨zt.set kk d, ·, fr.set hk2 d, rq.far (Ne.symm HNE.1) _, lo.setCell (p := ⟨gl, kk, none⟩) HGL.out.1 _⟩) : ∀ d, Downed zl (zt.set kk d) n (kk + 1) → ∃ zt', Downed zl zt' n (kk + 1) ∧ Front (wr.setCell ⟨gl, kk, none⟩ (.int .u32 (d : Int))) gl (k + r + 1) zt' ∧ Row (wr.setCell ⟨gl, kk, none⟩ (.int .u32 (d : Int))) gq qs ∧ Below w.heap.size w (wr.setCell ⟨gl, kk, none⟩ (.int .u32 (d : Int))))
            have S2 := Hd (S.out _ st)
            generalize zl[kk] = x at c1 x1 S2
            generalize at0 zl (kk + 1) = y at c2 x2 hz S2
            have a0 : (0 : Int) ≤ (kk : Int) := by omega
            have a1 : (kk : Int) < (k : Int) + 1 := by omega
            have a3 : (n : Int) ≤ 64 := by omega
            clear S st dn fr rq lo
            by_cases hh : kk + 1 < k + 1
            · have c3 := c2 hh
              have a4 : (kk : Int) + 1 < (k : Int) + 1 := by omega
              have a5 : (0 : Int) ≤ (kk : Int) + 1 := by omega
              have ej := or_join y x x2 x1
              have en := down_digit (y * 4294967296 + x) n
              have hN : y * 4294967296 + x < 18446744073709551616 := by omega
              generalize (y * 4294967296 + x) / 2 ^ n % 4294967296 = d9 at en S2
              generalize y * 4294967296 + x = N at ej en hN
              have EN := Hd en
              clear c2 hz en
              go_wp2_with fail
              rw [EN.out]
              go_roundw
              case rel => exact ⟨kk + 1, by go_num, by omega, S2⟩
              case measure => simp [intOf]; omega
            · obtain rfl := hz hh
              have a4 : (k : Int) + 1 ≤ (kk : Int) + 1 := by omega
              have ej := or_join 0 x x2 x1
              have en := down_digit (0 * 4294967296 + x) n
              simp only [Int.ofNat_zero, Nat.zero_mul, Int.zero_mul, Nat.zero_add] at ej en S2
              generalize x / 2 ^ n % 4294967296 = d9 at en S2
              have EN := Hd en
              clear c2 hz en
              go_wp2_with fail
              rw [EN.out]
              go_roundw
              case rel => exact ⟨kk + 1, by go_num, by omega, S2⟩
              case measure => simp [intOf]; omega
          · obtain rfl : kk = k + 1 := by omega
            have e := dn
            rw [← HZL.out] at e
            have hv := e.val_end HZM.out
            rw [HZV.out, Nat.mul_div_cancel _ (Nat.two_pow_pos n)] at hv
            have HV := Hd hv
            have HDN := Hd dn
            have HFR := Hd fr
            have HRQ := Hd rq
            have HLO := Hd lo
            clear e hv dn fr rq lo
            go_wp2_with fail
            rw [Exit.noGoto_ret]
            have hlen : zt.length = k + 1 := by rw [HDN.out.len, HZL.out]
            go_ret2
            exact ⟨gl, gq, k + r + 1, zt, qs, by rw [hlen, HQL.out.1]; rfl, HNE.1, HGL.out.1, HNE.2.2.2, HRQ.out, HFR.out, HQL.out.2, HDN.out.limbs, HZ1.out, HV.out, by rw [HQL.out.1, HXL.out]; omega, by rw [hlen, HYL.out], by omega, HLO.out⟩
      | succ i0 =>
        obtain rfl : i = (i0 : Int) := by omega
        clear hij
        obtain ⟨pre, ps, post, rfl, hpre, hps⟩ := split3 zs i0 (k + 2) (by rw [hdw.dv.len, HL1.out]; omega)
        subst hpre
        obtain ⟨p1, p2, p3, p4⟩ := hdw.dv.part rfl (D := k + 1) hps HL.out.high
        have HP := Hd (And.intro p1 p4)
        have hpl : pre.length + (k + 1) + 1 - pre.length = k + 1 + 1 := by omega
        have HDW := Hd hdw
        have a0 : (0 : Int) ≤ (pre.length : Int) := by omega
        have a1 : (pre.length : Int) ≤ (pre.length : Int) + ((k : Int) + 1) + 1 := by omega
        have a2 : (pre.length : Int) + ((k : Int) + 1) + 1 ≤ (k : Int) + (r : Int) + 1 := by omega
        go_wp2_with fail
        have c1 := hdw.rows.rl.mid_cell (k := k + 1) (by omega)
        have c2 := hdw.rows.rl.mid_cell (k := k) (by omega)
        have c3 := hdw.rows.rl.mid_cell (k := m) (by have := HKM.out; omega)
        have d3 := hdw.rows.rd.head_cell (k := m) (by rw [HDL.out]; have := HKM.out; omega)
        have hgl2 := hdw.rows.rl.lt
        have hgd2 := hdw.rows.rd.lt
        rw [← at0_lt (by omega)] at c1 c2
        rw [← at0_lt (by have := HKM.out; omega)] at c3
        rw [← at0_lt (by have := HKM.out; have := HDL.out; omega)] at d3
        have t1 := at0_limb p3 (k + 1)
        have t2 := at0_limb p3 k
        have t3 := at0_limb p3 m
        have t4 := at0_limb HDM.out m
        have hdg : Digits2 tp (at0 ds m) (4294967296 ^ m) (val (ds.take m)) (at0 ps (k + 1) * 4294967296 + at0 ps k) (at0 ps m) (val (ps.take m)) (val ds) (val ps) := by
          have e := HKM.out
          subst e
          have hd1 := HDL.out
          have := digits_of (ds := ds) (ps := ps) (m := m) (by omega) (by omega) HDM.out p3 (by rw [← at0_lt (by omega), HTT.out]; exact HTOP.out) (by rw [HDV.out]; exact p2)
          rw [← at0_lt (by omega), HTT.out, ← at0_lt (by omega), ← at0_lt (by omega), ← at0_lt (by omega), ← at0_lt (by omega)] at this
          exact this
        generalize at0 ps (k + 1) = uh at c1 t1 hdg
        generalize at0 ps k = ul at c2 t2 hdg
        generalize at0 ps m = u2 at c3 t3 hdg
        generalize at0 ds m = d2 at d3 t4 hdg
        have ej := or_join uh ul t1 t2
        have hMb : uh * 4294967296 + ul < 18446744073709551616 := by omega
        generalize hM : uh * 4294967296 + ul = M at ej hdg hMb
        have G0 := Hd hdg.guess0
        have hdiv : (M : Int) / (tp : Int) = ((M / tp : Nat) : Int) := by rw [← Int.natCast_ediv]
        have hmod : (M : Int) % (tp : Int) = ((M % tp : Nat) : Int) := by rw [← Int.natCast_emod]
        have hq0 : M / tp < 18446744073709551616 := Nat.lt_of_le_of_lt (Nat.div_le_self _ _) hMb
        have hr0 : M % tp < tp := Nat.mod_lt _ (by omega)
        generalize M / tp = g0 at hdiv G0 hq0
        generalize M % tp = r0 at hmod G0 hr0
        have hq0' : (g0 : Int) < 18446744073709551616 := by omega
        have HDG := Hd hdg
        clear hM hdg p1 p2 p3 p4
        clear hdw
        go_quiet (fail)
        go_wp2_with fail
        go_quiet (fail)
        go_upto_block 2 with fail
        rw [hpl, hmod]
        have hg1 : ∀ V : World, wr.grownBy V none → Row V gl (pre ++ ps ++ post) ∧ Row V gd (ds ++ [0]) := fun V hV => ⟨HDW.out.rows.rl.stays hV (by simp), HDW.out.rows.rd.stays hV (by simp)⟩
        go_cut [13] (fun s wx => ∃ g : Nat, s = .int .u64 g ∧ wr.grownBy wx none ∧ Hid (Guessed (val ds) (val ps) g))
        case first =>
          go_wp2_with fail
          go_loopw [13, 14] (fun s t wv => ∃ g rr : Nat, s = .int .u64 g ∧ t = .int .u64 rr ∧ g < 18446744073709551616 ∧ wr.grownBy wv none ∧ Hid (Guess tp M (val ds) (val ps) g rr)) (fun s _ _ => (intOf s).toNat)
          case atStart => exact ⟨g0, r0, rfl, rfl, hq0, ⟨rfl, rfl, rfl, Nat.le_refl _, fun _ _ _ => rfl⟩, G0⟩
          case round =>
            obtain ⟨g, rr, rfl, rfl, hgl64, hgx, HG⟩ := hrel
            have hrr := HG.out.small
            have c4 := hgx.cell c3 (by simp)
            have d4 := hgx.cell d3 (by simp)
            have hgl3 : gl < _ := Nat.lt_of_lt_of_le hgl2 hgx.size
            have hgd3 : gd < _ := Nat.lt_of_lt_of_le hgd2 hgx.size
            have ht : (rr : Int) + (tp : Int) < 18446744073709551616 := by omega
            clear G0 hdiv hmod hq0 hr0 c1 c2 c3 d3 hgl2 hgd2 ej hMb hq0' hpl
            by_cases hgB : 4294967296 ≤ g
            · obtain ⟨e1, e2, e3⟩ := HDG.out.down HG.out (.inl hgB)
              have hb1 : decide ((4294967296 : Int) ≤ (g : Int)) = true := by simp; omega
              have E2 := Hd e2
              have E3 := Hd e3
              have hg1 : (1 : Int) ≤ (g : Int) := by omega
              have hsub : (g : Int) - 1 = ((g - 1 : Nat) : Int) := by omega
              clear e2 e3
              by_cases hrB : 4294967296 ≤ rr + tp
              · have hb2 : decide ((4294967296 : Int) ≤ (rr : Int) + (tp : Int)) = true := by simp; omega
                go_wp2_with fail
                go_quiet (fail)
                go_wp2_with fail
                go_meet
                exact ⟨g - 1, rfl, grown_drewN hgx _, Hd (E3.out hrB)⟩
              · have hb2 : decide ((4294967296 : Int) ≤ (rr : Int) + (tp : Int)) = false := by simp; omega
                go_wp2_with fail
                go_quiet (fail)
                go_wp2_with fail
                go_roundw
                case rel => exact ⟨g - 1, rr + tp, rfl, by simp, by omega, grown_drewN hgx _, Hd (E2.out (by omega))⟩
                case measure => simp [intOf]; omega
            · have hb1 : decide ((4294967296 : Int) ≤ (g : Int)) = false := by simp; omega
              have hb0 : (g : Int) < 4294967296 := by omega
              have ej := or_join rr u2 hrr t3
              have hgd : g * d2 ≤ 4294967295 * 4294967295 := Nat.mul_le_mul (by omega) (by omega)
              have hgw : IntKind.u64.wrap ((g : Int) * (d2 : Int)) = ((g * d2 : Nat) : Int) := by
                rw [show (g : Int) * (d2 : Int) = ((g * d2 : Nat) : Int) by simp, IntKind.wrap_u64]; omega
              by_cases hc : rr * 4294967296 + u2 < g * d2
              · obtain ⟨e1, e2, e3⟩ := HDG.out.down HG.out (.inr hc)
                generalize rr * 4294967296 + u2 = N at ej hc
                generalize g * d2 = G at hgw hc hgd
                have hci : (N : Int) < (G : Int) := by omega
                have E2 := Hd e2
                have E3 := Hd e3
                have hg1 : (1 : Int) ≤ (g : Int) := by omega
                have hsub : (g : Int) - 1 = ((g - 1 : Nat) : Int) := by omega
                clear e2 e3 hc
                by_cases hrB : 4294967296 ≤ rr + tp
                · have hb2 : decide ((4294967296 : Int) ≤ (rr : Int) + (tp : Int)) = true := by simp; omega
                  go_wp2_with fail
                  go_quiet (fail)
                  go_wp2_with fail
                  go_meet
                  exact ⟨g - 1, rfl, grown_drewN hgx _, Hd (E3.out hrB)⟩
                · have hb2 : decide ((4294967296 : Int) ≤ (rr : Int) + (tp : Int)) = false := by simp; omega
                  go_wp2_with fail
                  go_quiet (fail)
                  go_wp2_with fail
                  go_roundw
                  case rel => exact ⟨g - 1, rr + tp, rfl, by simp, by omega, grown_drewN hgx _, Hd (E2.out (by omega))⟩
                  case measure => simp [intOf]; omega
              · have HGS := Hd (HDG.out.stop HG.out (by omega) (by omega))
                generalize rr * 4294967296 + u2 = N at ej hc
                generalize g * d2 = G at hgw hc hgd
                have hci : decide (N < G) = false := by simp; omega
                clear hc
                go_wp2_with fail
                go_quiet (fail)
                go_wp2_with fail
                go_meet
                exact ⟨g, rfl, grown_drewN hgx _, HGS⟩
        case rest =>
          obtain ⟨g, rfl, hgx, HG⟩ := hcut
          have hgB := HG.out.limb
          have hgB2 : (g : Int) < 4294967296 := by omega
          have rows1 := HDW.out.rows.stays hgx
          have C3 := exact_less gl gd (k + r + 1 - pre.length) (k + 1 + 1) g pre ps post ds [0] hgB (Ne.symm rows1.nld) (by have := HDL.out; omega) (by have := HDW.out.dv.limbs; rw [List.append_assoc, limbs_append, limbs_append] at this; exact this.2.1) HDM.out (by have := HDL.out; omega) _ rows1.rl rows1.rd
          rw [HDL.out] at C3
          have C4 := Hd C3
          have R1 := Hd rows1
          clear G0 hdiv hmod hq0 hr0 c1 c2 c3 d3 hgl2 hgd2 ej hMb hq0' hg1 C3 rows1
          go_wp2_with fail
          refine C4.out.mono ?_
          rintro e w1 ⟨ps', nn, rfl, l1, l2, r1, g1, v1⟩
          have rows2 := R1.out.lessed g1 r1
          have hiq : pre.length < qs.length := by rw [HDW.out.qlen]; omega
          have hiq2 : (pre.length : Int) < (r : Int) := by omega
          have qc := rows2.rq.cell hiq
          have qf := rows2.rq.frozen pre.length
          generalize qs[pre.length] = old at qc
          cases nn with
          | false =>
            rw [if_neg (by simp), Nat.mul_zero, Nat.add_zero] at v1
            have S := Hd (⟨pre ++ ps' ++ post, qs.set pre.length g, HDW.out.dv.step rfl (D := k + 1) hps HL.out.high l1 l2 hgB (by rw [← HDV.out]; exact v1) (by have := HG.out.high; rw [Nat.add_mul, Nat.one_mul] at this; rw [← HDV.out]; omega) hiq, rows2.setq pre.length g, by simp [HDW.out.qlen]⟩ : ∃ zs qs, Dw w (w1.setCell ⟨gq, pre.length, none⟩ (.int .u32 (g : Int))) gl gq gd r zl0 ds (val ys * 2 ^ n) pre.length zs qs)
            clear rows2 l1 l2 r1 g1 v1 hps
            go_wp2_with fail
            go_roundw
            case rel => exact ⟨pre.length, _, rfl, rfl, by omega, S⟩
            case measure => simp [intOf]
          | true =>
            rw [if_pos rfl, Nat.mul_one] at v1
            have hps'B := val_lt l2
            rw [l1, hps] at hps'B
            have hg1 : 1 ≤ g := by
              rcases Nat.eq_zero_or_pos g with rfl | h
              · exfalso
                rw [Nat.zero_mul, Nat.add_zero] at v1
                exact absurd hps'B (by rw [v1]; exact Nat.not_lt.2 (Nat.le_add_left _ _))
              · exact h
            have hg1i : (1 : Int) ≤ (g : Int) := by omega
            have hsub : (g : Int) - 1 = ((g - 1 : Nat) : Int) := by omega
            have hsb : ((g - 1 : Nat) : Int) < 4294967296 := by omega
            have rows3 := rows2.setq pre.length (g - 1)
            have B0 := Hd (⟨ps', rfl, l2, rows3, rfl, by simp [val]⟩ : ∃ ps'', Backed w (w1.setCell ⟨gq, pre.length, none⟩ (.int .u32 ((g - 1 : Nat) : Int))) gl gq gd pre ps' post (qs.set pre.length (g - 1)) ds 0 0 ps'')
            have HV1 := Hd v1
            have HL2 := Hd l2
            have HL1' := Hd l1
            have HPB := Hd hps'B
            have HPS := Hd hps
            clear rows2 l1 l2 r1 g1 v1 hps hps'B rows3
            go_wp2_with fail
            go_loopw [15, 136] (fun t s wv => ∃ kk cc : Nat, s = .int .i64 kk ∧ t = .int .u32 cc ∧ cc ≤ 1 ∧ kk ≤ k + 1 ∧ Hid (∃ ps'', Backed w wv gl gq gd pre ps' post (qs.set pre.length (g - 1)) ds kk cc ps'')) (fun _ s _ => k + 1 - (intOf s).toNat)
            case atStart => exact ⟨0, 0, rfl, rfl, by omega, by omega, B0⟩
            case round =>
              obtain ⟨kk, cc, rfl, rfl, hcc, hkk, HR⟩ := hrel
              clear B0 qc qf
              obtain ⟨ps'', hbk⟩ := HR.out
              clear HR
              by_cases hlt : kk < k + 1
              · have hk2 : kk < ps''.length := by rw [hbk.len, HL1'.out, HPS.out]; omega
                have hk3 : kk < ps'.length := by rw [HL1'.out, HPS.out]; omega
                have hk4 : kk < ds.length := by rw [HDL.out]; omega
                have a0 : (0 : Int) ≤ (kk : Int) := by omega
                have a1 : (kk : Int) < (k : Int) + 1 := by omega
                have a2 : (kk : Int) < (k : Int) + 1 + 1 := by omega
                have c1 := hbk.rows.rl.mid_cell hk2
                have c2 := hbk.rows.rd.head_cell hk4
                have f1 := hbk.rows.rl.frozen (pre.length + kk)
                have q1 := hbk.rows.rl.lt
                have q2 := hbk.rows.rd.lt
                rw [list_same hbk.rest hk2 hk3] at c1
                have x1 := limbs_get HL2.out hk3
                have x2 := limbs_get HDM.out hk4
                have S := Hd (⟨_, hbk.step hk3 hk4 _ rfl⟩ : ∃ ps4, Backed w _ gl gq gd pre ps' post (qs.set pre.length (g - 1)) ds (kk + 1) ((ps'[kk] + ds[kk] + cc) / 4294967296) ps4)
                generalize ps'[kk] = x at c1 x1 S
                generalize ds[kk] = y at c2 x2 S
                have C := Hd (fun V => bits_Add32 x y cc x1 x2 hcc V)
                have hc2 : (x + y + cc) / 4294967296 ≤ 1 := by omega
                generalize (x + y + cc) / 4294967296 = c9 at C S hc2
                generalize (x + y + cc) % 4294967296 = d9 at C S
                clear hbk
                go_wp2_with (first | (go_at_call 112; with_reducible refine (C.out _).mono ?_; rintro e w' ⟨rfl, rfl⟩))
                go_roundw
                case rel => exact ⟨kk + 1, c9, by go_num, rfl, hc2, hlt, S⟩
                case measure => simp [intOf]; omega
              · obtain rfl : kk = k + 1 := by omega
                have hk2 : k + 1 < ps''.length := by rw [hbk.len, HL1'.out, HPS.out]; omega
                have hk3 : k + 1 < ps'.length := by rw [HL1'.out, HPS.out]; omega
                have c1 := hbk.rows.rl.mid_cell hk2
                have f1 := hbk.rows.rl.frozen (pre.length + (k + 1))
                have q1 := hbk.rows.rl.lt
                rw [list_same hbk.rest hk2 hk3, ← at0_lt hk3] at c1
                have x1 := at0_limb HL2.out (k + 1)
                have hbk2 := hbk
                rw [← HDL.out] at hbk2
                obtain ⟨s1, s2, s3, s4⟩ := hbk2.stop (by rw [HL1'.out, HPS.out, HDL.out]) _ rfl
                rw [HDL.out] at s1 s2 s3 s4
                have hcc2 : (at0 ps' (k + 1) + cc) / 4294967296 ≤ 1 := by omega
                have hF := val_lt s2
                rw [s1, HL1'.out, HPS.out] at hF
                obtain ⟨-, z2, z3⟩ := back_val s4 HV1.out hF HPB.out HG.out.low hcc2
                have S := Hd (⟨_, _, HDW.out.dv.step rfl (D := k + 1) HPS.out HL.out.high (by rw [s1, HL1'.out]) s2 (by omega) (by rw [← HDV.out]; exact z2) (by rw [← HDV.out]; exact z3) hiq, s3, by simp [HDW.out.qlen]⟩ : ∃ zs qs, Dw w _ gl gq gd r zl0 ds (val ys * 2 ^ n) pre.length zs qs)
                generalize at0 ps' (k + 1) = x at c1 x1 S
                have ex : ((x : Int) + (cc : Int)) % 4294967296 = (((x + cc) % 4294967296 : Nat) : Int) := by omega
                generalize (x + cc) % 4294967296 = d9 at ex S
                have a0 : (0 : Int) ≤ (k : Int) + 1 := by omega
                have a2 : (k : Int) + 1 < (k : Int) + 1 + 1 := by omega
                have EX := Hd ex
                clear hbk hbk2 s1 s2 s3 s4 hF z2 z3 ex
                go_wp2_with fail
                go_roundw
                case rel => exact ⟨pre.length, _, rfl, rfl, by omega, by rw [EX.out]; exact S⟩
                case measure => simp [intOf]
/- A number of one's own; two results that share no memory; own of package exact. -/

theorem exact_signed_sv (neg : Bool) (A : Option Addr) (c : Nat) (xs : List Nat) (w : World) (h : Raw w A c xs) :
    Calls Tryz.prog 100 #[.bool neg, .slice A xs.length c] w fun e w' => e = .returned (sv neg A c xs) ∧ Below w.heap.size w w' := by
  unfold sv
  by_cases h0 : val xs = 0
  · rw [if_pos h0]; exact exact_signed_nought neg A c xs w h h0
  · rw [if_neg h0]; exact exact_signed_more neg A c xs w h h0
theorem IntOwn.sv {w : World} {base : Nat} {neg : Bool} {A : Option Addr} {c : Nat} {zs : List Nat} (hz : Limbs zs) (h : w.ownsRow base 109 1 (.slice A zs.length c) zs.length (cellsU zs)) (hc : zs.length ≤ c) (hm : c ≤ 9223372036854775807) : IntOwn w base (sv neg A c zs) (ival neg zs) := by
  unfold Go.Proofs.YtmcnmoljliggfaaGreatDoor.sv
  by_cases h0 : val zs = 0
  · rw [if_pos h0]
    have : ival neg zs = 0 := by unfold ival; rw [h0]; cases neg <;> rfl
    rw [this]; exact IntOwn.nought _ _
  · rw [if_neg h0]
    exact IntOwn.signed hz h hc hm rfl h0
def blkOf : Value → Option Nat
  | .agg #[_, s] => s.ownBlock
  | _ => none
theorem sv_blk {neg : Bool} {a : Addr} {c : Nat} {zs : List Nat} {g : Nat} (h : blkOf (sv neg (some a) c zs) = some g) : a.block = g := by
  unfold sv at h
  split at h
  · cases h
  · exact Option.some.inj h
structure Ints2 (w : World) (base : Nat) (v1 : Value) (z1 : Int) (v2 : Value) (z2 : Int) : Prop where
  one : IntOwn w base v1 z1
  two : IntOwn w base v2 z2
  apart : ∀ g, blkOf v1 = some g → blkOf v2 ≠ some g
theorem Ints2.below {w w' : World} {base : Nat} {v1 v2 : Value} {z1 z2 : Int} (h : Ints2 w base v1 z1 v2 z2) (hb : Below w.heap.size w w') : Ints2 w' base v1 z1 v2 z2 := ⟨h.one.below hb, h.two.below hb, h.apart⟩
theorem Ints2.base {w : World} {b b' : Nat} {v1 v2 : Value} {z1 z2 : Int} (h : Ints2 w b v1 z1 v2 z2) (hb : b' ≤ b) : Ints2 w b' v1 z1 v2 z2 := ⟨h.one.base hb, h.two.base hb, h.apart⟩
theorem Ints2.pair {w : World} {g base : Nat} {a b : Value} {v1 v2 : Value} {z1 z2 : Int} (h : Ints2 w base v1 z1 v2 z2) (hne : g < base) : Ints2 ((w.setCell ⟨g, 0, none⟩ a).setCell ⟨g, 1, none⟩ b) base v1 z1 v2 z2 := ⟨h.one.pair hne, h.two.pair hne, h.apart⟩
def RetTwo (base : Nat) (w : World) (z1 z2 : Int) (e : Ending) (w' : World) : Prop := ∃ v1 v2, e = .returned (.tuple #[v1, v2]) ∧ Ints2 w' base v1 z1 v2 z2 ∧ Below w.heap.size w w'

theorem exact_own (n1 : Bool) (A : Option Addr) (c : Nat) (xs : List Nat) (hl : xs.length ≤ 1073741824) (w : World) (h : Raw w A c xs) :
    Calls Tryz.prog 110 #[.bool n1, .slice A xs.length c] w (RetInt w.heap.size w (ival n1 xs)) := by
  have pr := Pair.new w 25 (.bool false) (.slice none 0 0)
  have b0 := (Below.refl w.heap.size w).alloc (Nat.le_refl _) (.cells #[.bool false, .slice none 0 0] 25)
  have rx := h.alloc (.cells #[.bool false, .slice none 0 0] 25)
  clear h
  go_enter Tryz.func110, Tryz.ntmps110
  obtain ⟨W, E⟩ : ∃ W, W = w.alloc (.cells #[.bool false, .slice none 0 0] 25) := ⟨_, rfl⟩
  have C1 := Hd (slices_Clone A c xs hl W (by rw [E]; exact rx))
  go_wp2_with fail
  rw [← E] at pr b0 ⊢
  have hsz : w.heap.size + 1 = W.heap.size := by rw [E]; simp
  clear E rx
  have PR := Hd pr
  have B0 := Hd b0
  clear pr b0
  refine C1.out.mono ?_
  rintro e w1 ⟨v, rfl, hv, hb1⟩
  obtain ⟨A1, c1, rfl, h2, h3, h4⟩ := hv.form
  have C2 := Hd (exact_signed_sv n1 A1 c1 xs w1 ⟨hv.limbs, h2, h3, Reads.of_own h4⟩)
  have I1 := Hd (IntOwn.sv (neg := n1) hv.limbs h4 h2 h3)
  have B1 := Hd (belowTo B0.out hb1)
  have P1 := Hd (PR.out.below hb1)
  obtain ⟨b9, A9, k9, c9, hsv⟩ := sv_form n1 A1 c1 xs
  rw [hsv] at C2 I1
  clear C1 PR hv h4 hb1 hsv
  go_wp2_with fail
  refine C2.out.mono ?_
  rintro e w2 ⟨rfl, hb2⟩
  have pr := P1.out.below hb2
  obtain ⟨q1, q2, q3, q4, q5⟩ := pr.facts
  have hI := (I1.out.below hb2).pair (g := w.heap.size) (a := .bool b9) (b := .slice A9 k9 c9) (by omega)
  have hB := below2 (belowTo B1.out hb2) (Nat.le_refl _) (.bool b9) (.slice A9 k9 c9)
  have hq := pr.store (.bool b9) (.slice A9 k9 c9)
  have HI := Hd hI
  have HB := Hd hB
  have HQ := Hd hq
  clear C2 I1 B1 P1 hb2 pr hI hB hq
  go_wp2_with fail
  obtain ⟨_, k0, k1, _, _⟩ := HQ.out.facts
  exact bodyPost_ret (by simp [results, Tryz.results110, go_sem, k0, k1]) rfl ⟨_, rfl, HI.out.base (by omega), HB.out⟩
end Go.Proofs.YtmcnmoljliggfaaGreatDoor
