/- Several texts in one: DivLaw, Twin2, DivRows. -/
import Derived.Test.YtbdliabfdplohaaDoorBw17
import Derived.Test.YtbdliabfdplohaaDoorBw10
import Derived.Test.YtbdliabfdplohaaDoorBw11
import Derived.Test.YtbdliabfdplohaaDoorBw13
import Derived.Test.YtbdliabfdplohaaDoorBw01
import Derived.WalkMore
import Derived.Deep.RegionWith
import Derived.Deep.RegionHeld3
import Derived.Deep.DeepCutAuto
import Derived.Deep.CutBlock
set_option maxRecDepth 100000
set_option maxHeartbeats 8000000
/- Long division by limbs: plain, no program in sight. -/
namespace Go.Proofs.YtbdliabfdplohaaDoor

theorem val_take2 {xs : List Nat} {m : Nat} (h : xs.length = m + 2) : val xs = (xs[m + 1] * 4294967296 + xs[m]) * 4294967296 ^ m + val (xs.take m) := by
  have e1 := val_take_more (xs := xs) (k := m + 1) (by omega)
  have e2 := val_take_more (xs := xs) (k := m) (by omega)
  rw [List.take_of_length_le (by omega)] at e1
  rw [e1, e2, Nat.pow_succ, Nat.add_mul]
  have a1 : 4294967296 ^ m * 4294967296 * xs[m + 1] = xs[m + 1] * 4294967296 * 4294967296 ^ m := by rw [Nat.mul_right_comm, Nat.mul_comm (4294967296 ^ m), Nat.mul_right_comm]
  have a2 : 4294967296 ^ m * xs[m] = xs[m] * 4294967296 ^ m := Nat.mul_comm _ _
  omega
theorem val_take3 {xs : List Nat} {m : Nat} (h : xs.length = m + 3) : val xs = ((xs[m + 2] * 4294967296 + xs[m + 1]) * 4294967296 + xs[m]) * 4294967296 ^ m + val (xs.take m) := by
  have e1 := val_take_more (xs := xs) (k := m + 2) (by omega)
  rw [List.take_of_length_le (by omega)] at e1
  have e2 := val_take2 (xs := xs.take (m + 2)) (m := m) (by simp [List.length_take]; omega)
  simp only [List.getElem_take, List.take_take, Nat.min_eq_left (show m ≤ m + 2 by omega)] at e2
  rw [e1, e2]
  have a1 : 4294967296 ^ (m + 2) * xs[m + 2] = xs[m + 2] * 4294967296 * 4294967296 * 4294967296 ^ m := by
    rw [Nat.pow_succ, Nat.pow_succ]
    generalize 4294967296 ^ m = P
    generalize xs[m + 2] = x
    grind
  simp only [Nat.add_mul] at *
  omega
theorem digits_of {ds ps : List Nat} {m : Nat} (hd : ds.length = m + 2) (hp : ps.length = m + 3) (hdl : Limbs ds) (hpl : Limbs ps) (htop : 2147483648 ≤ ds[m + 1]) (hlt : val ps < 4294967296 * val ds) :
    Digits2 ds[m + 1] ds[m] (4294967296 ^ m) (val (ds.take m)) (ps[m + 2] * 4294967296 + ps[m + 1]) ps[m] (val (ps.take m)) (val ds) (val ps) := by
  refine ⟨val_take2 hd, ?_, limbs_get hdl _, htop, limbs_get hdl _, val_take3 hp, ?_, limbs_get hpl _, hlt⟩
  · have := val_lt (limbs_take hdl m)
    rwa [List.length_take, Nat.min_eq_left (by omega)] at this
  · have := val_lt (limbs_take hpl m)
    rwa [List.length_take, Nat.min_eq_left (by omega)] at this

structure Guess (top head D U g r : Nat) : Prop where
  eq : g * top + r = head
  small : r < 4294967296
  high : U < (g + 1) * D
section
variable {top d2 P Dr head u2 Ur D U : Nat}
theorem Digits2.guess0 (h : Digits2 top d2 P Dr head u2 Ur D U) : Guess top head D U (head / top) (head % top) :=
  ⟨by rw [Nat.mul_comm]; exact Nat.div_add_mod head top, by have := Nat.mod_lt head (show 0 < top by have := h.htop; omega); have := h.htop2; omega, h.start⟩
structure Guessed (D U g : Nat) : Prop where
  limb : g < 4294967296
  high : U < (g + 1) * D
  low : g * D < U + D
theorem Digits2.stop (h : Digits2 top d2 P Dr head u2 Ur D U) {g r : Nat} (k : Guess top head D U g r) (h1 : g < 4294967296) (h2 : g * d2 ≤ r * 4294967296 + u2) : Guessed D U g :=
  ⟨h1, k.high, h.done k.eq h1 (.inr h2)⟩
theorem Digits2.down (h : Digits2 top d2 P Dr head u2 Ur D U) {g r : Nat} (k : Guess top head D U g r) (hc : 4294967296 ≤ g ∨ r * 4294967296 + u2 < g * d2) :
    1 ≤ g ∧ (r + top < 4294967296 → Guess top head D U (g - 1) (r + top)) ∧ (4294967296 ≤ r + top → Guessed D U (g - 1)) := by
  have hl := h.less k.eq hc
  have hg : 1 ≤ g := by
    rcases Nat.eq_zero_or_pos g with rfl | h0
    · omega
    · exact h0
  obtain ⟨g, rfl⟩ : ∃ g', g = g' + 1 := ⟨g - 1, by omega⟩
  have e : g * top + (r + top) = head := by have := k.eq; rw [Nat.add_mul] at this; omega
  refine ⟨hg, fun hr => ⟨by simpa using e, hr, by simpa using hl⟩, fun hr => ?_⟩
  have hb := h.brk k.eq hr
  exact ⟨by simp; omega, by simpa using hl, by simpa using h.done e (by omega) (.inl hr)⟩
end

structure Dv (zl0 zs qs : List Nat) (Y k : Nat) : Prop where
  len : zs.length = zl0.length
  limbs : Limbs zs
  limbsq : Limbs qs
  same : zs.take k = zl0.take k
  eq : val (qs.drop k) * Y + val (zs.drop k) = val (zl0.drop k)
  lt : val (zs.drop k) < Y
theorem drop_pre (pre mid : List Nat) (i : Nat) (h : pre.length = i) : (pre ++ mid).drop i = mid := by
  subst h; simp
theorem Dv.part {zl0 pre ps post qs : List Nat} {Y i D : Nat} (h : Dv zl0 (pre ++ ps ++ post) qs Y (i + 1)) (hpre : pre.length = i) (hps : ps.length = D + 1) (hY : Y < 4294967296 ^ D) :
    val post = 0 ∧ val ps < 4294967296 * Y ∧ Limbs ps ∧ val ps = val ((pre ++ ps ++ post).drop i) := by
  have hl := h.limbs
  rw [List.append_assoc, limbs_append, limbs_append] at hl
  have e0 : (pre ++ ps ++ post).drop i = ps ++ post := by rw [List.append_assoc, drop_pre _ _ _ hpre]
  obtain ⟨p, pt, rfl⟩ : ∃ p pt, ps = p :: pt := by
    match ps, hps with
    | p :: pt, _ => exact ⟨p, pt, rfl⟩
  have e1 : (pre ++ (p :: pt) ++ post).drop (i + 1) = pt ++ post := by
    have := congrArg (List.drop 1) e0
    rw [List.drop_drop] at this
    simpa using this
  have hlt := h.lt
  rw [e1, val_append] at hlt
  have hpt : pt.length = D := by simpa using hps
  rw [hpt] at hlt
  have hz : val post = 0 := by
    rcases Nat.eq_zero_or_pos (val post) with h0 | h0
    · exact h0
    · exfalso
      have h1 : 4294967296 ^ D ≤ 4294967296 ^ D * val post := Nat.le_mul_of_pos_right _ h0
      generalize 4294967296 ^ D = P at h1 hY hlt
      omega
  rw [hz, Nat.mul_zero, Nat.add_zero] at hlt
  have hp := hl.2.1 p (by simp)
  refine ⟨hz, ?_, hl.2.1, ?_⟩
  · simp only [val]
    clear hY hz e0 e1
    omega
  · rw [e0, val_append, hz, Nat.mul_zero, Nat.add_zero]
theorem Dv.step {zl0 pre ps ps' post qs : List Nat} {Y i D q : Nat} (h : Dv zl0 (pre ++ ps ++ post) qs Y (i + 1)) (hpre : pre.length = i) (hps : ps.length = D + 1) (hY : Y < 4294967296 ^ D)
    (hps' : ps'.length = ps.length) (hl' : Limbs ps') (hq : q < 4294967296) (hv : val ps' + q * Y = val ps) (hlt : val ps' < Y) (hi : i < qs.length) :
    Dv zl0 (pre ++ ps' ++ post) (qs.set i q) Y i := by
  obtain ⟨hz, -, -, hval⟩ := h.part hpre hps hY
  have hl := h.limbs
  rw [List.append_assoc, limbs_append, limbs_append] at hl
  have hlen := h.len
  have hi2 : i < (pre ++ ps ++ post).length := by simp; omega
  have hi3 : i < zl0.length := by rw [← hlen]; exact hi2
  have hat : (pre ++ ps ++ post)[i] = zl0[i] := by
    have e := congrArg (fun l : List Nat => l[i]?) h.same
    simp only [List.getElem?_take, if_pos (Nat.lt_succ_self i)] at e
    rw [List.getElem?_eq_getElem hi2, List.getElem?_eq_getElem hi3] at e
    exact Option.some.inj e
  have e0 : val ((pre ++ ps' ++ post).drop i) = val ps' := by rw [List.append_assoc, drop_pre _ _ _ hpre, val_append, hz, Nat.mul_zero, Nat.add_zero]
  refine ⟨?_, ?_, limbs_set h.limbsq hq, ?_, ?_, by rw [e0]; exact hlt⟩
  · rw [← hlen]; simp [hps']
  · rw [List.append_assoc, limbs_append, limbs_append]; exact ⟨hl.1, hl', hl.2.2⟩
  · have e := congrArg (List.take i) h.same
    rw [List.take_take, List.take_take, Nat.min_eq_left (by omega)] at e
    rw [← e, List.append_assoc, List.append_assoc, ← hpre, List.take_left, List.take_left]
  · rw [e0, val_drop_set hi, val_drop_more hi3]
    have e1 := h.eq
    have e2 : val ps = zl0[i] + 4294967296 * val ((pre ++ ps ++ post).drop (i + 1)) := by rw [hval, val_drop_more hi2, hat]
    rw [Nat.add_mul, Nat.mul_assoc]
    omega

theorem down_step {V k n : Nat} (r0 r1 rest : Nat) (hn : n ≤ 32) (hV : V / 4294967296 ^ k = r0 + 4294967296 * (r1 + 4294967296 * rest)) :
    V / 2 ^ n % 4294967296 ^ (k + 1) = V / 2 ^ n % 4294967296 ^ k + 4294967296 ^ k * ((r1 * 4294967296 + r0) / 2 ^ n % 4294967296) := by
  have e1 : V / 2 ^ n / 4294967296 ^ k = V / 4294967296 ^ k / 2 ^ n := by rw [Nat.div_div_eq_div_mul, Nat.div_div_eq_div_mul, Nat.mul_comm]
  rw [Nat.pow_succ, Nat.mod_mul, e1, hV]
  have e2 : r0 + 4294967296 * (r1 + 4294967296 * rest) = (r1 * 4294967296 + r0) + 2 ^ n * (2 ^ (32 - n) * (4294967296 * rest)) := by
    rw [← Nat.mul_assoc (2 ^ n), ← Nat.pow_add, show n + (32 - n) = 32 by omega]
    omega
  rw [e2, Nat.add_mul_div_left _ _ (Nat.two_pow_pos n)]
  have e3 : 2 ^ (32 - n) * (4294967296 * rest) = 4294967296 * (2 ^ (32 - n) * rest) := Nat.mul_left_comm _ _ _
  rw [e3, Nat.add_mul_mod_self_left]
theorem val_div_drop (xs : List Nat) (hx : Limbs xs) (k : Nat) (hk : k ≤ xs.length) : val xs / 4294967296 ^ k = val (xs.drop k) := by
  rw [val_part xs k hk, Nat.add_mul_div_left _ _ (Nat.pow_pos (by omega)), Nat.div_eq_of_lt, Nat.zero_add]
  have := val_lt (limbs_take hx k)
  rwa [List.length_take, Nat.min_eq_left hk] at this
theorem val_drop_two (xs : List Nat) (k : Nat) (hk : k < xs.length) : val (xs.drop k) = xs[k] + 4294967296 * (at0 xs (k + 1) + 4294967296 * val (xs.drop (k + 2))) := by
  rw [val_drop_more hk]
  rcases Nat.lt_or_ge (k + 1) xs.length with h | h
  · rw [val_drop_more h, at0_lt h]
  · rw [List.drop_of_length_le h, List.drop_of_length_le (by omega), at0_ge h]; simp [val]
structure Downed (r0 zs : List Nat) (n k : Nat) : Prop where
  len : zs.length = r0.length
  limbs : Limbs zs
  rest : zs.drop k = r0.drop k
  done : val (zs.take k) = val r0 / 2 ^ n % 4294967296 ^ k
theorem Downed.step {r0 zs : List Nat} {n k : Nat} (h : Downed r0 zs n k) (hr : Limbs r0) (hn : n ≤ 32) (hk : k < r0.length) :
    Downed r0 (zs.set k ((at0 r0 (k + 1) * 4294967296 + r0[k]) / 2 ^ n % 4294967296)) n (k + 1) := by
  have hk2 : k < zs.length := by rw [h.len]; exact hk
  refine ⟨by simp [h.len], limbs_set h.limbs (Nat.mod_lt _ (by omega)), drop_set_next h.rest, ?_⟩
  rw [set_take_more hk2, val_snoc, List.length_take, Nat.min_eq_left (by omega), h.done, down_step r0[k] (at0 r0 (k + 1)) (val (r0.drop (k + 2))) hn (by rw [val_div_drop _ hr _ (by omega), val_drop_two _ _ hk])]
theorem Downed.start (r0 : List Nat) (hr : Limbs r0) (n : Nat) : Downed r0 r0 n 0 := ⟨rfl, hr, rfl, by simp [val, Nat.mod_one]⟩
theorem Downed.val_end {r0 zs : List Nat} {n : Nat} (h : Downed r0 zs n r0.length) (hr : Limbs r0) : val zs = val r0 / 2 ^ n := by
  have e := h.done
  rw [List.take_of_length_le (by rw [h.len]; omega)] at e
  rw [e, Nat.mod_eq_of_lt]
  exact Nat.lt_of_le_of_lt (Nat.div_le_self _ _) (val_lt hr)

structure Lifted (ys : List Nat) (n m : Nat) : Prop where
  hn : n ≤ 31
  low : 2147483648 * 4294967296 ^ m ≤ val ys * 2 ^ n
  high : val ys * 2 ^ n < 4294967296 ^ (m + 1)
theorem lifted {ys : List Nat} {m : Nat} (hy : Limbs ys) (hl : ys.length = m + 1) (n b : Nat) (hb : n + b = 32) (h1 : 2 ^ b ≤ 2 * ys[m]) (h2 : ys[m] < 2 ^ b) (hb0 : 1 ≤ b) : Lifted ys n m := by
  have e := val_take_more (xs := ys) (k := m) (by omega)
  rw [List.take_of_length_le (by omega)] at e
  have hlt := val_lt (limbs_take hy m)
  rw [List.length_take, Nat.min_eq_left (by omega)] at hlt
  have hp : 2 ^ b * 2 ^ n = 4294967296 := by rw [← Nat.pow_add, show b + n = 32 by omega]
  refine ⟨by omega, ?_, ?_⟩
  · have a1 : 2 ^ b * 2 ^ n ≤ 2 * ys[m] * 2 ^ n := Nat.mul_le_mul_right _ h1
    have a2 : 2147483648 ≤ ys[m] * 2 ^ n := by rw [hp, Nat.mul_assoc] at a1; omega
    have a3 := Nat.mul_le_mul_right (4294967296 ^ m) a2
    have a4 : ys[m] * 2 ^ n * 4294967296 ^ m = 4294967296 ^ m * ys[m] * 2 ^ n := by rw [Nat.mul_comm (4294967296 ^ m), Nat.mul_right_comm]
    have a5 : 4294967296 ^ m * ys[m] * 2 ^ n ≤ val ys * 2 ^ n := Nat.mul_le_mul_right _ (by omega)
    omega
  · have a1 : val ys + 1 ≤ 4294967296 ^ m * 2 ^ b := by
      have := Nat.mul_le_mul_left (4294967296 ^ m) (show ys[m] + 1 ≤ 2 ^ b from h2)
      rw [Nat.mul_add] at this
      omega
    have a2 := Nat.mul_le_mul_right (2 ^ n) a1
    rw [Nat.mul_assoc, hp, Nat.add_mul, ← Nat.pow_succ] at a2
    have := Nat.two_pow_pos n
    omega
theorem Dv.start {xs ys zl0 : List Nat} {n m : Nat} (h : Lifted ys n m) (hx : Limbs xs) (hxl : m + 1 ≤ xs.length) (hzl : zl0.length = xs.length + 1) (hz : Limbs zl0) (hzv : val zl0 = val xs * 2 ^ n) (qs : List Nat) (hq : Limbs qs) (hql : qs.length = xs.length - m) :
    Dv zl0 zl0 qs (val ys * 2 ^ n) (xs.length - m) := by
  refine ⟨rfl, hz, hq, rfl, by rw [List.drop_of_length_le (by omega)]; simp [val], ?_⟩
  have h1 := val_part zl0 (xs.length - m) (by omega)
  have h2 : val (zl0.drop (xs.length - m)) * 4294967296 ^ (xs.length - m) < 4294967296 ^ xs.length * 2 ^ n := by
    have := Nat.mul_lt_mul_of_pos_right (val_lt hx) (Nat.two_pow_pos n)
    rw [Nat.mul_comm]
    omega
  have h3 : 4294967296 ^ xs.length = 4294967296 ^ m * 4294967296 ^ (xs.length - m) := by rw [← Nat.pow_add, show m + (xs.length - m) = xs.length by omega]
  rw [h3, Nat.mul_right_comm] at h2
  have h4 := Nat.lt_of_mul_lt_mul_right h2
  have h5 : 2 ^ n ≤ 2 ^ 31 := Nat.pow_le_pow_right (by omega) h.hn
  have h6 := Nat.mul_le_mul_left (4294967296 ^ m) h5
  have := h.low
  omega
theorem Dv.stop {zl0 zs qs : List Nat} {X Y n : Nat} (h : Dv zl0 zs qs (Y * 2 ^ n) 0) (hv : val zl0 = X * 2 ^ n) : val qs = X / Y ∧ val zs = X % Y * 2 ^ n := by
  have e := h.eq
  have hl := h.lt
  simp only [List.drop_zero] at e hl
  rw [hv] at e
  have hp := Nat.two_pow_pos n
  have hY : 0 < Y := by
    rcases Nat.eq_zero_or_pos Y with rfl | h0
    · simp at hl
    · exact h0
  have e1 : X * 2 ^ n / (Y * 2 ^ n) = X / Y := Nat.mul_div_mul_right _ _ hp
  have e2 : X * 2 ^ n % (Y * 2 ^ n) = X % Y * 2 ^ n := Nat.mul_mod_mul_right _ _ _
  rw [← e1, ← e2, ← e]
  have hpos : 0 < Y * 2 ^ n := Nat.mul_pos hY hp
  constructor
  · rw [Nat.add_comm, Nat.add_mul_div_right _ _ hpos, Nat.div_eq_of_lt hl, Nat.zero_add]
  · rw [Nat.mul_add_mod_self_right, Nat.mod_eq_of_lt hl]
/- More of copies and sizes, for the laws' walks. -/
open Go.RowKit

theorem TwinAt.far2 {w : World} {g g' : Nat} {xs : List Nat} (h : TwinAt w g xs) (hn : g ≠ g') (a b : Value) : TwinAt ((w.setCell ⟨g', 0, none⟩ a).setCell ⟨g', 1, none⟩ b) g xs := ⟨h.blk.far2 hn a b⟩
theorem keep_of {W w' : World} (q : Below W.heap.size W w') : Below W.heap.size W w' ∧ ∀ b o, b < W.heap.size → w'.cell? ⟨b, o, none⟩ = W.cell? ⟨b, o, none⟩ :=
  ⟨q, fun b o h => q.cell (p := ⟨b, o, none⟩) h⟩

/- For divide of package exact: its blocks, the divisor added back. -/

theorem bits_Lead (t b : Nat) (ht : t < 4294967296) (hb : b = 32 - Lib.bitLen t) (hb2 : Lib.bitLen t ≤ 32) (w : World) :
    Calls Tryd.prog 85 #[.int .u32 t] w fun e w' => e = .returned (.int .i64 b) ∧ w = w' := by
  refine (Tryd.bits_LeadingZeros32 t w (by omega) (by omega)).mono ?_
  rintro e w' ⟨rfl, rfl⟩
  refine ⟨?_, rfl⟩
  rw [Int.toNat_natCast, hb]
  have : (32 : Int) - (Lib.bitLen t : Int) = ((32 - Lib.bitLen t : Nat) : Int) := by omega
  rw [this]
theorem bitLen32 (t : Nat) (ht : t < 4294967296) (h0 : t ≠ 0) : Lib.bitLen t ≤ 32 ∧ 1 ≤ Lib.bitLen t ∧ 2 ^ Lib.bitLen t ≤ 2 * t ∧ t < 2 ^ Lib.bitLen t := by
  have h1 : t < 2 ^ Lib.bitLen t := bla_lt 64 t (by omega)
  have hpos : 1 ≤ Lib.bitLen t := by
    rcases Nat.eq_zero_or_pos (Lib.bitLen t) with h | h
    · rw [h] at h1; omega
    · exact h
  have h2 := bla_ge 64 t (Lib.bitLen t - 1) (by show Lib.bitLen t - 1 < Lib.bitLen t; omega)
  have e : 2 ^ Lib.bitLen t = 2 * 2 ^ (Lib.bitLen t - 1) := by
    rw [← Nat.pow_succ', show (Lib.bitLen t - 1).succ = Lib.bitLen t by omega]
  refine ⟨?_, hpos, by omega, h1⟩
  rcases Nat.lt_or_ge 32 (Lib.bitLen t) with h | h
  · have : 2 ^ 32 ≤ 2 ^ (Lib.bitLen t - 1) := Nat.pow_le_pow_right (by omega) (by omega)
    omega
  · exact h

theorem cut_top {zd : List Nat} {k : Nat} (h : zd.length = k + 1) (hl : Limbs zd) (hv : val zd < 4294967296 ^ k) : ∃ ds, zd = ds ++ [0] ∧ ds.length = k ∧ Limbs ds ∧ val ds = val zd := by
  have e := List.take_append_drop k zd
  have e2 : zd.drop k = [zd[k]] := by
    rw [List.drop_eq_getElem_cons (by omega), List.drop_of_length_le (by omega)]
  have hv2 := val_take_more (xs := zd) (k := k) (by omega)
  rw [List.take_of_length_le (by omega)] at hv2
  have h0 : zd[k] = 0 := by
    rcases Nat.eq_zero_or_pos zd[k] with h | h
    · exact h
    · exfalso
      have := Nat.le_mul_of_pos_right (4294967296 ^ k) h
      generalize 4294967296 ^ k = P at *
      omega
  rw [h0, Nat.mul_zero, Nat.add_zero] at hv2
  rw [h0] at e2
  refine ⟨zd.take k, by rw [← e2, e], by simp [List.length_take]; omega, limbs_take hl k, hv2.symm⟩
theorem top_big {ds : List Nat} {k : Nat} (h : ds.length = k + 1) (hl : Limbs ds) (hv : 2147483648 * 4294967296 ^ k ≤ val ds) : 2147483648 ≤ ds[k] := by
  have hv2 := val_take_more (xs := ds) (k := k) (by omega)
  rw [List.take_of_length_le (by omega)] at hv2
  have h1 := val_lt (limbs_take hl k)
  rw [List.length_take, Nat.min_eq_left (by omega)] at h1
  generalize ds[k] = t at *
  rcases Nat.lt_or_ge t 2147483648 with h2 | h2
  · exfalso
    have h3 := Nat.mul_le_mul_left (4294967296 ^ k) (show t + 1 ≤ 2147483648 from h2)
    rw [Nat.mul_add, Nat.mul_one, Nat.mul_comm _ 2147483648] at h3
    generalize 4294967296 ^ k * t = a at *
    generalize 4294967296 ^ k = P at *
    omega
  · exact h2
theorem split3 (zs : List Nat) (i n : Nat) (h : i + n ≤ zs.length) : ∃ pre ps post, zs = pre ++ ps ++ post ∧ pre.length = i ∧ ps.length = n :=
  ⟨zs.take i, (zs.drop i).take n, (zs.drop i).drop n, by rw [List.append_assoc, List.take_append_drop, List.take_append_drop], by simp [List.length_take]; omega, by simp [List.length_take]; omega⟩

theorem grown_drewN {w0 w : World} {row : Option Nat} (h : w0.grownBy w row) (n : Nat) : w0.grownBy (w.drewN n) row := ⟨h.os, h.tape, h.output, h.size, h.block⟩

theorem down_digit (N n : Nat) : (N : Int) / 2 ^ n % 4294967296 = ((N / 2 ^ n % 4294967296 : Nat) : Int) := by simp
theorem Row.far {w : World} {g : Nat} {zs : List Nat} (h : Row w g zs) {p : Addr} (hp : g ≠ p.block) (u : Value) : Row (w.setCell p u) g zs := ⟨h.blk.far hp u⟩

structure Rows3 (w wr : World) (gl gq gd : Nat) (zs qs ds : List Nat) : Prop where
  rl : Row wr gl zs
  rq : Row wr gq qs
  rd : Row wr gd (ds ++ [0])
  low : Below w.heap.size w wr
  nlq : gl ≠ gq
  ndq : gd ≠ gq
  nld : gl ≠ gd
  bl : w.heap.size ≤ gl
  bq : w.heap.size ≤ gq
section
variable {w wr wr' : World} {gl gq gd : Nat} {zs qs ds : List Nat}
theorem Rows3.stays (h : Rows3 w wr gl gq gd zs qs ds) (hg : wr.grownBy wr' none) : Rows3 w wr' gl gq gd zs qs ds :=
  ⟨h.rl.stays hg (by simp), h.rq.stays hg (by simp), h.rd.stays hg (by simp), h.low.grown hg h.low.size (fun k hk => by cases hk), h.nlq, h.ndq, h.nld, h.bl, h.bq⟩
theorem Rows3.lessed {zs' : List Nat} (h : Rows3 w wr gl gq gd zs qs ds) (hg : wr.grownBy wr' (some gl)) (hr : Row wr' gl zs') : Rows3 w wr' gl gq gd zs' qs ds :=
  ⟨hr, h.rq.stays hg (by have := h.nlq; simp; omega), h.rd.stays hg (by have := h.nld; simp; omega), h.low.grown hg h.low.size (fun k hk => by injection hk with hk; rw [← hk]; exact h.bl), h.nlq, h.ndq, h.nld, h.bl, h.bq⟩
theorem Rows3.setq (h : Rows3 w wr gl gq gd zs qs ds) (i d : Nat) : Rows3 w (wr.setCell ⟨gq, i, none⟩ (.int .u32 (d : Int))) gl gq gd zs (qs.set i d) ds :=
  ⟨h.rl.far h.nlq _, h.rq.set i d, h.rd.far h.ndq _, h.low.setCell (p := ⟨gq, i, none⟩) h.bq _, h.nlq, h.ndq, h.nld, h.bl, h.bq⟩
theorem Rows3.setl {pre ps post : List Nat} (h : Rows3 w wr gl gq gd (pre ++ ps ++ post) qs ds) {k : Nat} (hk : k < ps.length) (d : Nat) : Rows3 w (wr.setCell ⟨gl, pre.length + k, none⟩ (.int .u32 (d : Int))) gl gq gd (pre ++ ps.set k d ++ post) qs ds :=
  ⟨h.rl.mid_set hk d, h.rq.far (Ne.symm h.nlq) _, h.rd.far (Ne.symm h.nld) _, h.low.setCell (p := ⟨gl, pre.length + k, none⟩) h.bl _, h.nlq, h.ndq, h.nld, h.bl, h.bq⟩
end

structure Dw (w wr : World) (gl gq gd r : Nat) (zl0 ds : List Nat) (Y k : Nat) (zs qs : List Nat) : Prop where
  dv : Dv zl0 zs qs Y k
  rows : Rows3 w wr gl gq gd zs qs ds
  qlen : qs.length = r

structure Backed (w wv : World) (gl gq gd : Nat) (pre ps' post qs ds : List Nat) (k c : Nat) (ps'' : List Nat) : Prop where
  len : ps''.length = ps'.length
  limbs : Limbs ps''
  rows : Rows3 w wv gl gq gd (pre ++ ps'' ++ post) qs ds
  rest : ps''.drop k = ps'.drop k
  done : val (ps''.take k) + 4294967296 ^ k * c = val (ps'.take k) + val (ds.take k)
theorem Backed.step {w wv : World} {gl gq gd : Nat} {pre ps' post qs ds ps'' : List Nat} {k c : Nat} (h : Backed w wv gl gq gd pre ps' post qs ds k c ps'') (hk : k < ps'.length) (hkd : k < ds.length) (s : Nat) (hs : s = ps'[k] + ds[k] + c) :
    Backed w (wv.setCell ⟨gl, pre.length + k, none⟩ (.int .u32 ((s % 4294967296 : Nat) : Int))) gl gq gd pre ps' post qs ds (k + 1) (s / 4294967296) (ps''.set k (s % 4294967296)) := by
  have hk2 : k < ps''.length := by rw [h.len]; exact hk
  refine ⟨by simp [h.len], limbs_set h.limbs (Nat.mod_lt _ (by omega)), h.rows.setl hk2 _, drop_set_next h.rest, ?_⟩
  rw [set_take_more hk2, add_step (zs := ps''.take k) (k := k) (by rw [List.length_take]; omega) s h.done (ps'[k] + ds[k]) (by rw [hs]), val_take_more hk, val_take_more hkd, Nat.mul_add]
  omega
theorem back_val {F V U Y P g cc : Nat} (h1 : F + P * cc = V + Y) (h2 : V + g * Y = U + P) (hF : F < P) (hV : V < P) (hlow : g * Y < U + Y) (hcc : cc ≤ 1) : 1 ≤ g ∧ F + (g - 1) * Y = U ∧ F < Y := by
  have hg : 1 ≤ g := by
    rcases Nat.eq_zero_or_pos g with rfl | h
    · simp at h2; omega
    · exact h
  obtain ⟨g, rfl⟩ : ∃ g', g = g' + 1 := ⟨g - 1, by omega⟩
  rw [Nat.add_mul, Nat.one_mul] at h2 hlow
  have hc : cc = 1 := by
    rcases (by omega : cc = 0 ∨ cc = 1) with rfl | rfl
    · exfalso
      rw [Nat.mul_zero] at h1
      omega
    · rfl
  subst hc
  rw [Nat.mul_one] at h1
  simp only [Nat.add_sub_cancel]
  omega
theorem Backed.stop {w wv : World} {gl gq gd : Nat} {pre ps' post qs ds ps'' : List Nat} {c : Nat} (h : Backed w wv gl gq gd pre ps' post qs ds ds.length c ps'') (hl : ps'.length = ds.length + 1) (x : Nat) (hx : x = at0 ps' ds.length) :
    (ps''.set ds.length ((x + c) % 4294967296)).length = ps'.length ∧ Limbs (ps''.set ds.length ((x + c) % 4294967296)) ∧ Rows3 w (wv.setCell ⟨gl, pre.length + ds.length, none⟩ (.int .u32 (((x + c) % 4294967296 : Nat) : Int))) gl gq gd (pre ++ ps''.set ds.length ((x + c) % 4294967296) ++ post) qs ds ∧
      val (ps''.set ds.length ((x + c) % 4294967296)) + 4294967296 ^ (ds.length + 1) * ((x + c) / 4294967296) = val ps' + val ds := by
  have hk2 : ds.length < ps''.length := by rw [h.len]; omega
  have hk3 : ds.length < ps'.length := by omega
  refine ⟨by simp [h.len], limbs_set h.limbs (Nat.mod_lt _ (by omega)), h.rows.setl hk2 _, ?_⟩
  have e := set_take_more (zs := ps'') (k := ds.length) (d := (x + c) % 4294967296) hk2
  rw [List.take_of_length_le (by simp [h.len]; omega)] at e
  have e3 := h.done
  rw [val_take_all (xs := ds) (k := ds.length) (Nat.le_refl _)] at e3
  have e2 := val_take_more hk3
  rw [List.take_of_length_le (by omega), ← at0_lt hk3, ← hx] at e2
  rw [e, add_step (zs := ps''.take ds.length) (k := ds.length) (by rw [List.length_take]; omega) (x + c) e3 x rfl, e2]
  omega

end Go.Proofs.YtbdliabfdplohaaDoor
