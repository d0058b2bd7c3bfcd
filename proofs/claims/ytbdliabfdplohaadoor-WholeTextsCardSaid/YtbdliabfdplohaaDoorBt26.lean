/- Several texts in one: Knuth, DivLaw. -/
import Derived.Test.YtbdliabfdplohaaDoorBt06
import Derived.Test.YtbdliabfdplohaaDoorBt25
set_option maxRecDepth 100000
set_option maxHeartbeats 8000000
/- Division by the first digits: the guess is at most one too great. Plain, no program in sight. -/
namespace Go.Proofs.YtbdliabfdplohaaDoor

structure Digits2 (top d2 P Dr head u2 Ur D U : Nat) : Prop where
  hD : D = (top * 4294967296 + d2) * P + Dr
  hDr : Dr < P
  hd2 : d2 < 4294967296
  htop : 2147483648 ≤ top
  htop2 : top < 4294967296
  hU : U = (head * 4294967296 + u2) * P + Ur
  hUr : Ur < P
  hu2 : u2 < 4294967296
  hlt : U < 4294967296 * D

section
variable {top d2 P Dr head u2 Ur D U : Nat}
theorem Digits2.posP (h : Digits2 top d2 P Dr head u2 Ur D U) : 0 < P := by have := h.hDr; omega
theorem Digits2.leD (h : Digits2 top d2 P Dr head u2 Ur D U) : (top * 4294967296 + d2) * P ≤ D := by rw [h.hD]; omega
theorem Digits2.ltU (h : Digits2 top d2 P Dr head u2 Ur D U) : U < (head * 4294967296 + u2 + 1) * P := by
  have := h.hUr
  rw [h.hU, Nat.add_mul _ 1 P]; omega
theorem Digits2.start (h : Digits2 top d2 P Dr head u2 Ur D U) : U < (head / top + 1) * D := by
  have h1 : head + 1 ≤ (head / top + 1) * top := by
    have e := Nat.div_add_mod head top
    have e2 := Nat.mod_lt head (show 0 < top by have := h.htop; omega)
    rw [Nat.add_mul, Nat.one_mul, Nat.mul_comm (head / top)]; omega
  have h2 : (head * 4294967296 + u2 + 1) ≤ (head / top + 1) * (top * 4294967296 + d2) := by
    have e : (head + 1) * 4294967296 ≤ (head / top + 1) * top * 4294967296 := Nat.mul_le_mul_right _ h1
    have e2 : (head / top + 1) * (top * 4294967296 + d2) = (head / top + 1) * top * 4294967296 + (head / top + 1) * d2 := by rw [Nat.mul_add, Nat.mul_assoc]
    have := h.hu2
    rw [e2]; omega
  have h3 := Nat.mul_le_mul_right P h2
  have h4 := Nat.mul_le_mul_left (head / top + 1) h.leD
  have h5 := h.ltU
  rw [Nat.mul_assoc] at h3
  omega
theorem Digits2.less (h : Digits2 top d2 P Dr head u2 Ur D U) {g rest : Nat} (hg : g * top + rest = head) (hc : 4294967296 ≤ g ∨ rest * 4294967296 + u2 < g * d2) : U < g * D := by
  rcases hc with hc | hc
  · have := Nat.mul_le_mul_right D hc
    have := h.hlt
    omega
  · have h2 : head * 4294967296 + u2 + 1 ≤ g * (top * 4294967296 + d2) := by
      have e2 : g * (top * 4294967296 + d2) = g * top * 4294967296 + g * d2 := by rw [Nat.mul_add, Nat.mul_assoc]
      rw [e2, ← hg]
      generalize g * top = a at *
      generalize g * d2 = c at *
      omega
    have h3 := Nat.mul_le_mul_right P h2
    have h4 := Nat.mul_le_mul_left g h.leD
    have h5 := h.ltU
    rw [Nat.mul_assoc] at h3
    omega
theorem Digits2.done (h : Digits2 top d2 P Dr head u2 Ur D U) {g rest : Nat} (hg : g * top + rest = head) (hgB : g < 4294967296) (hc : 4294967296 ≤ rest ∨ g * d2 ≤ rest * 4294967296 + u2) : g * D < U + D := by
  have h1 : g * d2 ≤ rest * 4294967296 + u2 := by
    rcases hc with hc | hc
    · have e : g * d2 ≤ 4294967295 * 4294967295 := Nat.mul_le_mul (by omega) (by have := h.hd2; omega)
      omega
    · exact hc
  have h2 : g * (top * 4294967296 + d2) ≤ head * 4294967296 + u2 := by
    have e2 : g * (top * 4294967296 + d2) = g * top * 4294967296 + g * d2 := by rw [Nat.mul_add, Nat.mul_assoc]
    rw [e2, ← hg]
    generalize g * top = a at *
    generalize g * d2 = c at *
    omega
  have h3 := Nat.mul_le_mul_right P h2
  have h4 : g * Dr ≤ 4294967295 * P := Nat.mul_le_mul (by omega) (Nat.le_of_lt h.hDr)
  have h5 : g * D = g * (top * 4294967296 + d2) * P + g * Dr := by rw [h.hD, Nat.mul_add, Nat.mul_assoc]
  have h6 : 4294967296 * P ≤ D := by
    have e : 4294967296 * P ≤ (top * 4294967296 + d2) * P := Nat.mul_le_mul_right P (by have := h.htop; omega)
    exact Nat.le_trans e h.leD
  have h7 := h.posP
  have h8 : (head * 4294967296 + u2) * P ≤ U := by rw [h.hU]; omega
  omega
end
/- Long division by limbs: plain, no program in sight. -/

structure Guess (top head D U g r : Nat) : Prop where
  eq : g * top + r = head
  small : r < 4294967296
  high : U < (g + 1) * D
section
variable {top d2 P Dr head u2 Ur D U : Nat}
structure Guessed (D U g : Nat) : Prop where
  limb : g < 4294967296
  high : U < (g + 1) * D
  low : g * D < U + D
end

structure Dv (zl0 zs qs : List Nat) (Y k : Nat) : Prop where
  len : zs.length = zl0.length
  limbs : Limbs zs
  limbsq : Limbs qs
  same : zs.take k = zl0.take k
  eq : val (qs.drop k) * Y + val (zs.drop k) = val (zl0.drop k)
  lt : val (zs.drop k) < Y
theorem drop_pre (pre mid : List Nat) (i : Nat) (h : pre.length = i) : (pre ++ mid).drop i = mid := by
  subst h; simp
theorem Dv.part {zl0 pre ps post qs : List Nat} {Y i D : Nat} (h : Dv zl0 (pre ++ ps ++ post) qs Y (i + 1)) (hpre : pre.length = i) (hps : ps.length = D + 1) (hY : Y < 4294967296 ^ D) :
    val post = 0 ∧ val ps < 4294967296 * Y ∧ Limbs ps ∧ val ps = val ((pre ++ ps ++ post).drop i) := by
  have hl := h.limbs
  rw [List.append_assoc, limbs_append, limbs_append] at hl
  have e0 : (pre ++ ps ++ post).drop i = ps ++ post := by rw [List.append_assoc, drop_pre _ _ _ hpre]
  obtain ⟨p, pt, rfl⟩ : ∃ p pt, ps = p :: pt := by
    match ps, hps with
    | p :: pt, _ => exact ⟨p, pt, rfl⟩
  have e1 : (pre ++ (p :: pt) ++ post).drop (i + 1) = pt ++ post := by
    have := congrArg (List.drop 1) e0
    rw [List.drop_drop] at this
    simpa using this
  have hlt := h.lt
  rw [e1, val_append] at hlt
  have hpt : pt.length = D := by simpa using hps
  rw [hpt] at hlt
  have hz : val post = 0 := by
    rcases Nat.eq_zero_or_pos (val post) with h0 | h0
    · exact h0
    · exfalso
      have h1 : 4294967296 ^ D ≤ 4294967296 ^ D * val post := Nat.le_mul_of_pos_right _ h0
      generalize 4294967296 ^ D = P at h1 hY hlt
      omega
  rw [hz, Nat.mul_zero, Nat.add_zero] at hlt
  have hp := hl.2.1 p (by simp)
  refine ⟨hz, ?_, hl.2.1, ?_⟩
  · simp only [val]
    clear hY hz e0 e1
    omega
  · rw [e0, val_append, hz, Nat.mul_zero, Nat.add_zero]
theorem Dv.step {zl0 pre ps ps' post qs : List Nat} {Y i D q : Nat} (h : Dv zl0 (pre ++ ps ++ post) qs Y (i + 1)) (hpre : pre.length = i) (hps : ps.length = D + 1) (hY : Y < 4294967296 ^ D)
    (hps' : ps'.length = ps.length) (hl' : Limbs ps') (hq : q < 4294967296) (hv : val ps' + q * Y = val ps) (hlt : val ps' < Y) (hi : i < qs.length) :
    Dv zl0 (pre ++ ps' ++ post) (qs.set i q) Y i := by
  obtain ⟨hz, -, -, hval⟩ := h.part hpre hps hY
  have hl := h.limbs
  rw [List.append_assoc, limbs_append, limbs_append] at hl
  have hlen := h.len
  have hi2 : i < (pre ++ ps ++ post).length := by simp; omega
  have hi3 : i < zl0.length := by rw [← hlen]; exact hi2
  have hat : (pre ++ ps ++ post)[i] = zl0[i] := by
    have e := congrArg (fun l : List Nat => l[i]?) h.same
    simp only [List.getElem?_take, if_pos (Nat.lt_succ_self i)] at e
    rw [List.getElem?_eq_getElem hi2, List.getElem?_eq_getElem hi3] at e
    exact Option.some.inj e
  have e0 : val ((pre ++ ps' ++ post).drop i) = val ps' := by rw [List.append_assoc, drop_pre _ _ _ hpre, val_append, hz, Nat.mul_zero, Nat.add_zero]
  refine ⟨?_, ?_, limbs_set h.limbsq hq, ?_, ?_, by rw [e0]; exact hlt⟩
  · rw [← hlen]; simp [hps']
  · rw [List.append_assoc, limbs_append, limbs_append]; exact ⟨hl.1, hl', hl.2.2⟩
  · have e := congrArg (List.take i) h.same
    rw [List.take_take, List.take_take, Nat.min_eq_left (by omega)] at e
    rw [← e, List.append_assoc, List.append_assoc, ← hpre, List.take_left, List.take_left]
  · rw [e0, val_drop_set hi, val_drop_more hi3]
    have e1 := h.eq
    have e2 : val ps = zl0[i] + 4294967296 * val ((pre ++ ps ++ post).drop (i + 1)) := by rw [hval, val_drop_more hi2, hat]
    rw [Nat.add_mul, Nat.mul_assoc]
    omega

theorem down_step {V k n : Nat} (r0 r1 rest : Nat) (hn : n ≤ 32) (hV : V / 4294967296 ^ k = r0 + 4294967296 * (r1 + 4294967296 * rest)) :
    V / 2 ^ n % 4294967296 ^ (k + 1) = V / 2 ^ n % 4294967296 ^ k + 4294967296 ^ k * ((r1 * 4294967296 + r0) / 2 ^ n % 4294967296) := by
  have e1 : V / 2 ^ n / 4294967296 ^ k = V / 4294967296 ^ k / 2 ^ n := by rw [Nat.div_div_eq_div_mul, Nat.div_div_eq_div_mul, Nat.mul_comm]
  rw [Nat.pow_succ, Nat.mod_mul, e1, hV]
  have e2 : r0 + 4294967296 * (r1 + 4294967296 * rest) = (r1 * 4294967296 + r0) + 2 ^ n * (2 ^ (32 - n) * (4294967296 * rest)) := by
    rw [← Nat.mul_assoc (2 ^ n), ← Nat.pow_add, show n + (32 - n) = 32 by omega]
    omega
  rw [e2, Nat.add_mul_div_left _ _ (Nat.two_pow_pos n)]
  have e3 : 2 ^ (32 - n) * (4294967296 * rest) = 4294967296 * (2 ^ (32 - n) * rest) := Nat.mul_left_comm _ _ _
  rw [e3, Nat.add_mul_mod_self_left]
theorem val_div_drop (xs : List Nat) (hx : Limbs xs) (k : Nat) (hk : k ≤ xs.length) : val xs / 4294967296 ^ k = val (xs.drop k) := by
  rw [val_part xs k hk, Nat.add_mul_div_left _ _ (Nat.pow_pos (by omega)), Nat.div_eq_of_lt, Nat.zero_add]
  have := val_lt (limbs_take hx k)
  rwa [List.length_take, Nat.min_eq_left hk] at this
theorem val_drop_two (xs : List Nat) (k : Nat) (hk : k < xs.length) : val (xs.drop k) = xs[k] + 4294967296 * (at0 xs (k + 1) + 4294967296 * val (xs.drop (k + 2))) := by
  rw [val_drop_more hk]
  rcases Nat.lt_or_ge (k + 1) xs.length with h | h
  · rw [val_drop_more h, at0_lt h]
  · rw [List.drop_of_length_le h, List.drop_of_length_le (by omega), at0_ge h]; simp [val]
structure Downed (r0 zs : List Nat) (n k : Nat) : Prop where
  len : zs.length = r0.length
  limbs : Limbs zs
  rest : zs.drop k = r0.drop k
  done : val (zs.take k) = val r0 / 2 ^ n % 4294967296 ^ k
theorem Downed.step {r0 zs : List Nat} {n k : Nat} (h : Downed r0 zs n k) (hr : Limbs r0) (hn : n ≤ 32) (hk : k < r0.length) :
    Downed r0 (zs.set k ((at0 r0 (k + 1) * 4294967296 + r0[k]) / 2 ^ n % 4294967296)) n (k + 1) := by
  have hk2 : k < zs.length := by rw [h.len]; exact hk
  refine ⟨by simp [h.len], limbs_set h.limbs (Nat.mod_lt _ (by omega)), drop_set_next h.rest, ?_⟩
  rw [set_take_more hk2, val_snoc, List.length_take, Nat.min_eq_left (by omega), h.done, down_step r0[k] (at0 r0 (k + 1)) (val (r0.drop (k + 2))) hn (by rw [val_div_drop _ hr _ (by omega), val_drop_two _ _ hk])]
theorem Downed.start (r0 : List Nat) (hr : Limbs r0) (n : Nat) : Downed r0 r0 n 0 := ⟨rfl, hr, rfl, by simp [val, Nat.mod_one]⟩
structure Lifted (ys : List Nat) (n m : Nat) : Prop where
  hn : n ≤ 31
  low : 2147483648 * 4294967296 ^ m ≤ val ys * 2 ^ n
  high : val ys * 2 ^ n < 4294967296 ^ (m + 1)
theorem lifted {ys : List Nat} {m : Nat} (hy : Limbs ys) (hl : ys.length = m + 1) (n b : Nat) (hb : n + b = 32) (h1 : 2 ^ b ≤ 2 * ys[m]) (h2 : ys[m] < 2 ^ b) (hb0 : 1 ≤ b) : Lifted ys n m := by
  have e := val_take_more (xs := ys) (k := m) (by omega)
  rw [List.take_of_length_le (by omega)] at e
  have hlt := val_lt (limbs_take hy m)
  rw [List.length_take, Nat.min_eq_left (by omega)] at hlt
  have hp : 2 ^ b * 2 ^ n = 4294967296 := by rw [← Nat.pow_add, show b + n = 32 by omega]
  refine ⟨by omega, ?_, ?_⟩
  · have a1 : 2 ^ b * 2 ^ n ≤ 2 * ys[m] * 2 ^ n := Nat.mul_le_mul_right _ h1
    have a2 : 2147483648 ≤ ys[m] * 2 ^ n := by rw [hp, Nat.mul_assoc] at a1; omega
    have a3 := Nat.mul_le_mul_right (4294967296 ^ m) a2
    have a4 : ys[m] * 2 ^ n * 4294967296 ^ m = 4294967296 ^ m * ys[m] * 2 ^ n := by rw [Nat.mul_comm (4294967296 ^ m), Nat.mul_right_comm]
    have a5 : 4294967296 ^ m * ys[m] * 2 ^ n ≤ val ys * 2 ^ n := Nat.mul_le_mul_right _ (by omega)
    omega
  · have a1 : val ys + 1 ≤ 4294967296 ^ m * 2 ^ b := by
      have := Nat.mul_le_mul_left (4294967296 ^ m) (show ys[m] + 1 ≤ 2 ^ b from h2)
      rw [Nat.mul_add] at this
      omega
    have a2 := Nat.mul_le_mul_right (2 ^ n) a1
    rw [Nat.mul_assoc, hp, Nat.add_mul, ← Nat.pow_succ] at a2
    have := Nat.two_pow_pos n
    omega
theorem Dv.start {xs ys zl0 : List Nat} {n m : Nat} (h : Lifted ys n m) (hx : Limbs xs) (hxl : m + 1 ≤ xs.length) (hzl : zl0.length = xs.length + 1) (hz : Limbs zl0) (hzv : val zl0 = val xs * 2 ^ n) (qs : List Nat) (hq : Limbs qs) (hql : qs.length = xs.length - m) :
    Dv zl0 zl0 qs (val ys * 2 ^ n) (xs.length - m) := by
  refine ⟨rfl, hz, hq, rfl, by rw [List.drop_of_length_le (by omega)]; simp [val], ?_⟩
  have h1 := val_part zl0 (xs.length - m) (by omega)
  have h2 : val (zl0.drop (xs.length - m)) * 4294967296 ^ (xs.length - m) < 4294967296 ^ xs.length * 2 ^ n := by
    have := Nat.mul_lt_mul_of_pos_right (val_lt hx) (Nat.two_pow_pos n)
    rw [Nat.mul_comm]
    omega
  have h3 : 4294967296 ^ xs.length = 4294967296 ^ m * 4294967296 ^ (xs.length - m) := by rw [← Nat.pow_add, show m + (xs.length - m) = xs.length by omega]
  rw [h3, Nat.mul_right_comm] at h2
  have h4 := Nat.lt_of_mul_lt_mul_right h2
  have h5 : 2 ^ n ≤ 2 ^ 31 := Nat.pow_le_pow_right (by omega) h.hn
  have h6 := Nat.mul_le_mul_left (4294967296 ^ m) h5
  have := h.low
  omega
end Go.Proofs.YtbdliabfdplohaaDoor
