/- Several texts in one: Cmp2, RefTimes, RefRead. -/
import Derived.Test.YtbdliabfdplohaaDoorBw10
import Derived.Test.YtbdliabfdplohaaDoorBwHd
import Derived.Test.YtbdliabfdplohaaDoorBw08
import Derived.Test.YtbdliabfdplohaaDoorBw09
import Derived.Test.YtbdliabfdplohaaDoorBw06
import Derived.Test.YtbdliabfdplohaaDoorBw07
import Derived.Deep.Cut
import Derived.Deep.DeepCutAuto
set_option maxRecDepth 100000
set_option maxHeartbeats 8000000
/- Cmp, over numbers that may be. (Written by wip/exact/gencmp.py.) -/
namespace Go.Proofs.YtbdliabfdplohaaDoor
open Go.RowKit

theorem exact_Cmp_less (n1 n2 : Bool) (A B : Option Addr) (c d : Nat) (xs ys : List Nat) (a b : Int) (hab : a < b) (hs1 : sgnI n1 xs = a) (hs2 : sgnI n2 ys = b) (w : World) (h : Raw w A c xs) (g : Raw w B d ys) :
    Calls Tryd.prog 51 #[.agg #[.bool n1, .slice A xs.length c], .agg #[.bool n2, .slice B ys.length d]] w fun e w' => e = .returned (.int .i64 (-1)) ∧ Below w.heap.size w w' := by
  have HS1 := Hd hs1
  have HS2 := Hd hs2
  have e1 : (a == b) = false := by simp; omega
  have e2 : (a != b) = true := by simp; omega
  clear hs1 hs2
  have p0 := (Pair.new w 24 (.bool n1) (.slice A xs.length c)).alloc (.cells #[.bool n2, .slice B ys.length d] 24)
  have q0 := Pair.new (w.alloc (.cells #[.bool n1, .slice A xs.length c] 24)) 24 (.bool n2) (.slice B ys.length d)
  have b0 := ((Below.refl w.heap.size w).alloc (Nat.le_refl _) (.cells #[.bool n1, .slice A xs.length c] 24)).alloc (by simp) (.cells #[.bool n2, .slice B ys.length d] 24)
  have hx := (h.alloc (.cells #[.bool n1, .slice A xs.length c] 24)).alloc (.cells #[.bool n2, .slice B ys.length d] 24)
  have hy := (g.alloc (.cells #[.bool n1, .slice A xs.length c] 24)).alloc (.cells #[.bool n2, .slice B ys.length d] 24)
  simp only [World.size_alloc] at q0
  go_enter Tryd.func51, Tryd.ntmps51
  go_wp2_with fail
  obtain ⟨W, E⟩ : ∃ W, W = (w.alloc (.cells #[.bool n1, .slice A xs.length c] 24)).alloc (.cells #[.bool n2, .slice B ys.length d] 24) := ⟨_, rfl⟩
  rw [← E] at p0 q0 b0 hx hy ⊢
  clear E
  have D1 := fun (V : World) (hV : Below W.heap.size W V) => exact_Sign_any n1 A c xs V (hx.below hV)
  have D2 := fun (V : World) (hV : Below W.heap.size W V) => exact_Sign_any n2 B d ys V (hy.below hV)
  rw [HS1.out] at D1
  rw [HS2.out] at D2
  have H1 := Hd D1
  have H2 := Hd D2
  have HX := Hd hx
  have HY := Hd hy
  obtain ⟨l1, c0, c1, -, -⟩ := p0.facts
  obtain ⟨l2, d0, d1, -, -⟩ := q0.facts
  clear D1 D2 hx hy h g
  go_region_held3 (fun w' => Below W.heap.size W w' ∧ ∀ b o, b < W.heap.size → w'.cell? ⟨b, o, none⟩ = W.cell? ⟨b, o, none⟩)
    (first
      | exact ⟨(Below.refl _ _).drew, fun _ _ _ => rfl⟩
      | (obtain ⟨q, _⟩ := ‹Below W.heap.size W _ ∧ _›; have q' := belowTo q hbx; exact ⟨q', fun b o h => q'.cell (p := ⟨b, o, none⟩) h⟩))
    (first
      | (go_at_call 71; with_reducible refine (H1.out _ ?_).mono ?_; exact (‹Below W.heap.size W _ ∧ _›).1; rintro e wx ⟨rfl, hbx⟩)
      | (go_at_call 71; with_reducible refine (H2.out _ ?_).mono ?_; exact (‹Below W.heap.size W _ ∧ _›).1; rintro e wx ⟨rfl, hbx⟩))
  obtain ⟨q, _⟩ := ‹Below W.heap.size W _ ∧ _›
  obtain ⟨w2, E⟩ : ∃ V, V = wx := ⟨_, rfl⟩
  rw [← E] at q ⊢
  clear E hbx
  clear c0 c1 d0 d1
  go_wp2
  go_ret
  exact ⟨rfl, b0.trans (q.mono b0.size)⟩

theorem exact_Cmp_more (n1 n2 : Bool) (A B : Option Addr) (c d : Nat) (xs ys : List Nat) (a b : Int) (hab : b < a) (hs1 : sgnI n1 xs = a) (hs2 : sgnI n2 ys = b) (w : World) (h : Raw w A c xs) (g : Raw w B d ys) :
    Calls Tryd.prog 51 #[.agg #[.bool n1, .slice A xs.length c], .agg #[.bool n2, .slice B ys.length d]] w fun e w' => e = .returned (.int .i64 1) ∧ Below w.heap.size w w' := by
  have HS1 := Hd hs1
  have HS2 := Hd hs2
  have e1 : (a == b) = false := by simp; omega
  have e2 : (a != b) = true := by simp; omega
  clear hs1 hs2
  have p0 := (Pair.new w 24 (.bool n1) (.slice A xs.length c)).alloc (.cells #[.bool n2, .slice B ys.length d] 24)
  have q0 := Pair.new (w.alloc (.cells #[.bool n1, .slice A xs.length c] 24)) 24 (.bool n2) (.slice B ys.length d)
  have b0 := ((Below.refl w.heap.size w).alloc (Nat.le_refl _) (.cells #[.bool n1, .slice A xs.length c] 24)).alloc (by simp) (.cells #[.bool n2, .slice B ys.length d] 24)
  have hx := (h.alloc (.cells #[.bool n1, .slice A xs.length c] 24)).alloc (.cells #[.bool n2, .slice B ys.length d] 24)
  have hy := (g.alloc (.cells #[.bool n1, .slice A xs.length c] 24)).alloc (.cells #[.bool n2, .slice B ys.length d] 24)
  simp only [World.size_alloc] at q0
  go_enter Tryd.func51, Tryd.ntmps51
  go_wp2_with fail
  obtain ⟨W, E⟩ : ∃ W, W = (w.alloc (.cells #[.bool n1, .slice A xs.length c] 24)).alloc (.cells #[.bool n2, .slice B ys.length d] 24) := ⟨_, rfl⟩
  rw [← E] at p0 q0 b0 hx hy ⊢
  clear E
  have D1 := fun (V : World) (hV : Below W.heap.size W V) => exact_Sign_any n1 A c xs V (hx.below hV)
  have D2 := fun (V : World) (hV : Below W.heap.size W V) => exact_Sign_any n2 B d ys V (hy.below hV)
  rw [HS1.out] at D1
  rw [HS2.out] at D2
  have H1 := Hd D1
  have H2 := Hd D2
  have HX := Hd hx
  have HY := Hd hy
  obtain ⟨l1, c0, c1, -, -⟩ := p0.facts
  obtain ⟨l2, d0, d1, -, -⟩ := q0.facts
  clear D1 D2 hx hy h g
  go_region_held3 (fun w' => Below W.heap.size W w' ∧ ∀ b o, b < W.heap.size → w'.cell? ⟨b, o, none⟩ = W.cell? ⟨b, o, none⟩)
    (first
      | exact ⟨(Below.refl _ _).drew, fun _ _ _ => rfl⟩
      | (obtain ⟨q, _⟩ := ‹Below W.heap.size W _ ∧ _›; have q' := belowTo q hbx; exact ⟨q', fun b o h => q'.cell (p := ⟨b, o, none⟩) h⟩))
    (first
      | (go_at_call 71; with_reducible refine (H1.out _ ?_).mono ?_; exact (‹Below W.heap.size W _ ∧ _›).1; rintro e wx ⟨rfl, hbx⟩)
      | (go_at_call 71; with_reducible refine (H2.out _ ?_).mono ?_; exact (‹Below W.heap.size W _ ∧ _›).1; rintro e wx ⟨rfl, hbx⟩))
  obtain ⟨q, _⟩ := ‹Below W.heap.size W _ ∧ _›
  obtain ⟨w2, E⟩ : ∃ V, V = wx := ⟨_, rfl⟩
  rw [← E] at q ⊢
  clear E hbx
  clear c0 c1 d0 d1
  go_wp2
  go_ret
  exact ⟨rfl, b0.trans (q.mono b0.size)⟩

theorem exact_Cmp_same (n1 n2 : Bool) (A B : Option Addr) (c d : Nat) (xs ys : List Nat) (a : Int) (ha : a = -1 ∧ n1 = true ∨ 0 ≤ a ∧ n1 = false) (hs1 : sgnI n1 xs = a) (hs2 : sgnI n2 ys = a) (hcx : Canon xs) (hcy : Canon ys) (hn : xs.length ≤ 4611686018427387904) (hm : ys.length ≤ 4611686018427387904) (w : World) (h : Raw w A c xs) (g : Raw w B d ys) :
    Calls Tryd.prog 51 #[.agg #[.bool n1, .slice A xs.length c], .agg #[.bool n2, .slice B ys.length d]] w fun e w' => e = .returned (.int .i64 (if n1 then cmpv (val ys) (val xs) else cmpv (val xs) (val ys))) ∧ Below w.heap.size w w' := by
  have HS1 := Hd hs1
  have HS2 := Hd hs2
  have e1 : (a == a) = true := by simp
  have e2 : (a != a) = false := by simp
  have HA := Hd ha
  clear hs1 hs2 ha
  have p0 := (Pair.new w 24 (.bool n1) (.slice A xs.length c)).alloc (.cells #[.bool n2, .slice B ys.length d] 24)
  have q0 := Pair.new (w.alloc (.cells #[.bool n1, .slice A xs.length c] 24)) 24 (.bool n2) (.slice B ys.length d)
  have b0 := ((Below.refl w.heap.size w).alloc (Nat.le_refl _) (.cells #[.bool n1, .slice A xs.length c] 24)).alloc (by simp) (.cells #[.bool n2, .slice B ys.length d] 24)
  have hx := (h.alloc (.cells #[.bool n1, .slice A xs.length c] 24)).alloc (.cells #[.bool n2, .slice B ys.length d] 24)
  have hy := (g.alloc (.cells #[.bool n1, .slice A xs.length c] 24)).alloc (.cells #[.bool n2, .slice B ys.length d] 24)
  simp only [World.size_alloc] at q0
  go_enter Tryd.func51, Tryd.ntmps51
  go_wp2_with fail
  obtain ⟨W, E⟩ : ∃ W, W = (w.alloc (.cells #[.bool n1, .slice A xs.length c] 24)).alloc (.cells #[.bool n2, .slice B ys.length d] 24) := ⟨_, rfl⟩
  rw [← E] at p0 q0 b0 hx hy ⊢
  clear E
  have D1 := fun (V : World) (hV : Below W.heap.size W V) => exact_Sign_any n1 A c xs V (hx.below hV)
  have D2 := fun (V : World) (hV : Below W.heap.size W V) => exact_Sign_any n2 B d ys V (hy.below hV)
  rw [HS1.out] at D1
  rw [HS2.out] at D2
  have H1 := Hd D1
  have H2 := Hd D2
  have HX := Hd hx
  have HY := Hd hy
  obtain ⟨l1, c0, c1, -, -⟩ := p0.facts
  obtain ⟨l2, d0, d1, -, -⟩ := q0.facts
  clear D1 D2 hx hy h g
  go_region_held3 (fun w' => Below W.heap.size W w' ∧ ∀ b o, b < W.heap.size → w'.cell? ⟨b, o, none⟩ = W.cell? ⟨b, o, none⟩)
    (first
      | exact ⟨(Below.refl _ _).drew, fun _ _ _ => rfl⟩
      | (obtain ⟨q, _⟩ := ‹Below W.heap.size W _ ∧ _›; have q' := belowTo q hbx; exact ⟨q', fun b o h => q'.cell (p := ⟨b, o, none⟩) h⟩))
    (first
      | (go_at_call 71; with_reducible refine (H1.out _ ?_).mono ?_; exact (‹Below W.heap.size W _ ∧ _›).1; rintro e wx ⟨rfl, hbx⟩)
      | (go_at_call 71; with_reducible refine (H2.out _ ?_).mono ?_; exact (‹Below W.heap.size W _ ∧ _›).1; rintro e wx ⟨rfl, hbx⟩))
  obtain ⟨q, _⟩ := ‹Below W.heap.size W _ ∧ _›
  obtain ⟨w2, E⟩ : ∃ V, V = wx := ⟨_, rfl⟩
  rw [← E] at q ⊢
  clear E hbx
  clear c0 c1 d0 d1
  have hx2 := HX.out.below q
  have hy2 := HY.out.below q
  have p2 := p0.below q
  have q2 := q0.below q
  obtain ⟨k1, c0, c1, -, -⟩ := p2.facts
  obtain ⟨k2, d0, d1, -, -⟩ := q2.facts
  have b2 := b0.trans (q.mono b0.size)
  clear p0 q0 b0 q l1 l2 p2 q2 HX HY H1 H2
  go_wp2_with fail
  refine (exact_size_any A B c d xs ys hcx hcy hn hm _ hx2 hy2).mono ?_
  rintro e w3 ⟨z, rfl, hz1, hz2, t1, t2, t3, hb⟩
  have b3 := belowTo b2 hb
  have c0' : w3.cell? ⟨w.heap.size, 0, none⟩ = some (.bool n1) := by rw [hb.cell k1]; exact c0
  clear hx2 hy2 c0 c1 d0 d1 hb b2
  have hcase : val xs < val ys ∨ val xs = val ys ∨ val ys < val xs := by omega
  cases n1 <;> rcases hcase with hc | hc | hc
  · have fin : cmpv (val xs) (val ys) = -1 := cmpv_lt hc
    have HF := Hd fin
    have hz := t1 hc
    clear fin t1 t2 t3 hc HA
    have hmx : max (-1) (min 1 z) = -1 := by omega
    have HM := Hd hmx
    clear hmx
    go_wp2
    go_ret
    exact ⟨by show _ = Ending.returned (.int .i64 (cmpv (val xs) (val ys))); rw [HF.out]; show Ending.returned (.int .i64 (max (-1) (min 1 z))) = _; rw [HM.out], b3⟩
  · have fin : cmpv (val xs) (val ys) = 0 := by rw [hc]; exact cmpv_eq _
    have HF := Hd fin
    have hz := t2 hc
    clear fin t1 t2 t3 hc HA
    subst hz
    go_wp2
    go_ret
    exact ⟨by show _ = Ending.returned (.int .i64 (cmpv (val xs) (val ys))); rw [HF.out]; rfl, b3⟩
  · have fin : cmpv (val xs) (val ys) = 1 := cmpv_gt hc
    have HF := Hd fin
    have hz := t3 hc
    clear fin t1 t2 t3 hc HA
    have hmx : max (-1) (min 1 z) = 1 := by omega
    have HM := Hd hmx
    clear hmx
    go_wp2
    go_ret
    exact ⟨by show _ = Ending.returned (.int .i64 (cmpv (val xs) (val ys))); rw [HF.out]; show Ending.returned (.int .i64 (max (-1) (min 1 z))) = _; rw [HM.out], b3⟩
  · have fin : cmpv (val ys) (val xs) = 1 := cmpv_gt hc
    have HF := Hd fin
    have hz := t1 hc
    clear fin t1 t2 t3 hc HA
    have hmx : max (-1) (min 1 (-z)) = 1 := by omega
    have HM := Hd hmx
    clear hmx
    go_wp2
    go_ret
    exact ⟨by show _ = Ending.returned (.int .i64 (cmpv (val ys) (val xs))); rw [HF.out]; show Ending.returned (.int .i64 (max (-1) (min 1 (-z)))) = _; rw [HM.out], b3⟩
  · have fin : cmpv (val ys) (val xs) = 0 := by rw [hc]; exact cmpv_eq _
    have HF := Hd fin
    have hz := t2 hc
    clear fin t1 t2 t3 hc HA
    subst hz
    go_wp2
    go_ret
    exact ⟨by show _ = Ending.returned (.int .i64 (cmpv (val ys) (val xs))); rw [HF.out]; rfl, b3⟩
  · have fin : cmpv (val ys) (val xs) = -1 := cmpv_lt hc
    have HF := Hd fin
    have hz := t3 hc
    clear fin t1 t2 t3 hc HA
    have hmx : max (-1) (min 1 (-z)) = -1 := by omega
    have HM := Hd hmx
    clear hmx
    go_wp2
    go_ret
    exact ⟨by show _ = Ending.returned (.int .i64 (cmpv (val ys) (val xs))); rw [HF.out]; show Ending.returned (.int .i64 (max (-1) (min 1 (-z)))) = _; rw [HM.out], b3⟩

def ival (neg : Bool) (xs : List Nat) : Int := if neg then -(val xs : Int) else val xs
def cmpz (a b : Int) : Int := if a < b then -1 else if b < a then 1 else 0
theorem cmpz_lt {a b : Int} (h : a < b) : cmpz a b = -1 := by simp [cmpz, h]
theorem cmpz_gt {a b : Int} (h : b < a) : cmpz a b = 1 := by
  unfold cmpz; rw [if_neg (by omega), if_pos h]
theorem val_pos {xs : List Nat} (hx : Limbs xs) (hc : Canon xs) (h : xs.length ≠ 0) : 0 < val xs := by
  rcases Nat.eq_zero_or_pos (val xs) with h0 | h0
  · have := natL_val hx hc
    rw [h0, natL_zero] at this
    subst this
    exact absurd rfl h
  · exact h0
theorem sgn_cases {neg : Bool} {xs : List Nat} (hx : Limbs xs) (h : okI neg xs = true) :
    (sgnI neg xs = -1 ∧ ival neg xs < 0 ∧ neg = true) ∨ (sgnI neg xs = 0 ∧ ival neg xs = 0 ∧ neg = false) ∨ (sgnI neg xs = 1 ∧ 0 < ival neg xs ∧ neg = false) := by
  obtain ⟨_, hc, hz⟩ := okI_true.1 h
  by_cases h0 : xs.length = 0
  · obtain rfl := List.eq_nil_of_length_eq_zero h0
    obtain rfl := hz rfl
    exact .inr (.inl ⟨rfl, rfl, rfl⟩)
  · have := val_pos hx hc h0
    cases neg
    · exact .inr (.inr ⟨by simp [sgnI, h0], by simp [ival]; omega, rfl⟩)
    · exact .inl ⟨by simp [sgnI, h0], by simp [ival]; omega, rfl⟩
theorem cmp_same_neg {n1 n2 : Bool} {xs ys : List Nat} (h1 : n1 = true) (h2 : n2 = true) : cmpz (ival n1 xs) (ival n2 ys) = if true then cmpv (val ys) (val xs) else cmpv (val xs) (val ys) := by
  subst h1 h2
  simp only [if_true, ival, cmpz, cmpv]
  split <;> (try split) <;> (try split) <;> (try split) <;> omega
theorem cmp_same_pos {n1 n2 : Bool} {xs ys : List Nat} (h1 : n1 = false) (h2 : n2 = false) : cmpz (ival n1 xs) (ival n2 ys) = if false then cmpv (val ys) (val xs) else cmpv (val xs) (val ys) := by
  subst h1 h2
  simp only [Bool.false_eq_true, if_false, ival, cmpz, cmpv]
  split <;> (try split) <;> (try split) <;> (try split) <;> omega

theorem exact_Cmp_any (n1 n2 : Bool) (A B : Option Addr) (c d : Nat) (xs ys : List Nat) (o1 : okI n1 xs = true) (o2 : okI n2 ys = true) (w : World) (h : Raw w A c xs) (g : Raw w B d ys) :
    Calls Tryd.prog 51 #[.agg #[.bool n1, .slice A xs.length c], .agg #[.bool n2, .slice B ys.length d]] w fun e w' => e = .returned (.int .i64 (cmpz (ival n1 xs) (ival n2 ys))) ∧ Below w.heap.size w w' := by
  obtain ⟨l1, cx, z1⟩ := okI_true.1 o1
  obtain ⟨l2, cy, z2⟩ := okI_true.1 o2
  rcases sgn_cases h.limbs o1 with ⟨s1, v1, b1⟩ | ⟨s1, v1, b1⟩ | ⟨s1, v1, b1⟩ <;> rcases sgn_cases g.limbs o2 with ⟨s2, v2, b2⟩ | ⟨s2, v2, b2⟩ | ⟨s2, v2, b2⟩
  · rw [cmp_same_neg b1 b2]; subst b1 b2; exact exact_Cmp_same true true A B c d xs ys _ (.inl ⟨rfl, rfl⟩) s1 s2 cx cy (by omega) (by omega) w h g
  · rw [cmpz_lt (by omega)]; exact exact_Cmp_less n1 n2 A B c d xs ys _ _ (by omega) s1 s2 w h g
  · rw [cmpz_lt (by omega)]; exact exact_Cmp_less n1 n2 A B c d xs ys _ _ (by omega) s1 s2 w h g
  · rw [cmpz_gt (by omega)]; exact exact_Cmp_more n1 n2 A B c d xs ys _ _ (by omega) s1 s2 w h g
  · rw [cmp_same_pos b1 b2]; subst b1 b2; exact exact_Cmp_same false false A B c d xs ys _ (.inr ⟨by omega, rfl⟩) s1 s2 cx cy (by omega) (by omega) w h g
  · rw [cmpz_lt (by omega)]; exact exact_Cmp_less n1 n2 A B c d xs ys _ _ (by omega) s1 s2 w h g
  · rw [cmpz_gt (by omega)]; exact exact_Cmp_more n1 n2 A B c d xs ys _ _ (by omega) s1 s2 w h g
  · rw [cmpz_gt (by omega)]; exact exact_Cmp_more n1 n2 A B c d xs ys _ _ (by omega) s1 s2 w h g
  · rw [cmp_same_pos b1 b2]; subst b1 b2; exact exact_Cmp_same false false A B c d xs ys _ (.inr ⟨by omega, rfl⟩) s1 s2 cx cy (by omega) (by omega) w h g

/- times, fitting, half, even of the references. -/

/- Read of the references: the number of a text. -/

theorem OwnL.toN {w : World} {base n L : Nat} {v : Value} (h : OwnL w base v n L) : ∃ A c zs, v = .slice A zs.length c ∧ Limbs zs ∧ val zs = n ∧ zs.length ≤ L ∧ zs.length ≤ c ∧ c ≤ 9223372036854775807 ∧ ReadsU w w.heap.size A zs ∧ OwnN w base (.slice A (natL n).length c) n := by
  obtain ⟨A, c, zs, h1, h2, h3, h4, h5, h6, h7⟩ := h.form
  have hl : (natL n).length ≤ zs.length := by
    have := natL_take h2
    have h8 := congrArg List.length this
    rw [h3, List.length_take] at h8
    omega
  refine ⟨A, c, zs, h1, h2, h3, h4, h5, h6, Reads.of_own h7, A, c, rfl, by omega, h6, ?_⟩
  have ht := natL_take h2
  rw [h3] at ht
  by_cases h0 : zs.length = 0
  · have hz := List.eq_nil_of_length_eq_zero h0
    subst hz
    have e0 : (natL n).length = 0 := by simpa using hl
    have e1 := List.eq_nil_of_length_eq_zero e0
    rw [e1]
    exact h7
  · obtain ⟨g, rfl, -, -, -⟩ := own_block h7 h0
    have := row_cut h7 hl
    rw [← cellsU_take, ← ht] at this
    exact this
structure Split (s D : ByteArray) (neg : Bool) : Prop where
  neg : negOf s.data.toList = neg
  tail : tailOf s.data.toList = D.data.toList
def RetRead (base : Nat) (w : World) (o : Option Int) (e : Ending) (w' : World) : Prop := ∃ v, e = .returned (.tuple #[v, .bool o.isSome]) ∧ IntOwn w' base v (o.getD 0) ∧ Below w.heap.size w w'

end Go.Proofs.YtbdliabfdplohaaDoor
