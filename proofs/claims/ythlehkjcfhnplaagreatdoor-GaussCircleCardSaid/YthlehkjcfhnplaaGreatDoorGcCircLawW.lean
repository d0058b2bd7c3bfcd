/- Several texts in one: CircLawW. -/
import Derived.Test.YthlehkjcfhnplaaGreatDoorGcCircleW
set_option maxRecDepth 100000
set_option maxHeartbeats 8000000
/- GaussCircle of whatever comes in. -/
namespace Go.Proofs.YthlehkjcfhnplaaGreatDoor
open Go.RowKit

theorem gunit_c {n d N D M E : Int} (f1 : Fine n d) (h : GIs ((1 - Rat.divInt n d * Rat.divInt n d) / (1 + Rat.divInt n d * Rat.divInt n d)) ((Rat.divInt n d + Rat.divInt n d) / (1 + Rat.divInt n d * Rat.divInt n d)) N D M E) (V : World) (v : Value) (g : FracAt V v n d) :
    Calls Tryz.prog 34 #[v] V (RetGaussOwn2 V.heap.size V N D M E 0) :=
  gauss_Unit_ok (by rw [f1.chk]; rfl) (unit_u f1 h.re h.im) h.fits V v g
theorem unit_len {t : Rat} {k : Nat} (h : ln t + ld t ≤ k) : (ln ((1 - t * t) / (1 + t * t)) ≤ 4 * k + 10 ∧ ld ((1 - t * t) / (1 + t * t)) ≤ 4 * k + 10) ∧ ln ((t + t) / (1 + t * t)) ≤ 4 * k + 10 ∧ ld ((t + t) / (1 + t * t)) ≤ 4 * k + 10 := by
  have h3 : 1 + t * t ≠ 0 := fun k => by have := sq_nonneg t; grind
  have o1 : ln (1 : Rat) = 1 := by decide +kernel
  have o2 : ld (1 : Rat) = 1 := by decide +kernel
  have p1 := ln_mul t t
  have p2 := ln_sub 1 (t * t)
  have p3 := ln_add 1 (t * t)
  have p4 := ln_add t t
  have p5 := ln_quo (1 - t * t) (1 + t * t) h3
  have p6 := ln_quo (t + t) (1 + t * t) h3
  rw [o1, o2] at p2 p3
  omega
theorem len_int (P : Int) {Q : Int} (hQ : Q ≠ 0) : ln (Rat.divInt P Q) ≤ lz P ∧ ld (Rat.divInt P Q) ≤ lz Q := by
  have h := (is_low P hQ).len
  have a := lowN_lz P Q
  have b := lowD_lz P Q
  omega
theorem circle_uv {n d p q : Int} (hd : d ≠ 0) (hq : q ≠ 0) (h : 1 - Rat.divInt n d * Rat.divInt p q ≠ 0) : ((d * q - n * p : Int) : Rat) ≠ 0 ∧ (Rat.divInt n d + Rat.divInt p q) / (1 - Rat.divInt n d * Rat.divInt p q) = ((n * q + p * d : Int) : Rat) / ((d * q - n * p : Int) : Rat) := by
  have d0 : (d : Rat) ≠ 0 := fun k => hd (Rat.intCast_eq_zero_iff.1 k)
  have q0 : (q : Rat) ≠ 0 := fun k => hq (Rat.intCast_eq_zero_iff.1 k)
  rw [Rat.divInt_eq_div, Rat.divInt_eq_div] at h ⊢
  simp only [Rat.intCast_sub, Rat.intCast_add, Rat.intCast_mul]
  generalize (n : Rat) = x at *
  generalize (d : Rat) = y at *
  generalize (p : Rat) = z at *
  generalize (q : Rat) = v at *
  have hv : y * v - x * z ≠ 0 := fun k => h (by grind)
  exact ⟨hv, by grind⟩
theorem two_len {n d p q : Int} (hd : d ≠ 0) (hq : q ≠ 0) (h : 1 - Rat.divInt n d * Rat.divInt p q ≠ 0) (h1 : lz n + lz d ≤ 198) (h2 : lz p + lz q ≤ 198) {u : Rat} (hu : u = (Rat.divInt n d + Rat.divInt p q) / (1 - Rat.divInt n d * Rat.divInt p q)) :
    (ln ((1 - u * u) / (1 + u * u)) ≤ 2048 ∧ ld ((1 - u * u) / (1 + u * u)) ≤ 2048) ∧ ln ((u + u) / (1 + u * u)) ≤ 2048 ∧ ld ((u + u) / (1 + u * u)) ≤ 2048 := by
  obtain ⟨hV, e⟩ := circle_uv hd hq h
  rw [e] at hu
  have m1 := lz_mul n q
  have m2 := lz_mul p d
  have m3 := lz_mul d q
  have m4 := lz_mul n p
  have m5 := lz_add (n * q) (p * d)
  have m6 := lz_sub (d * q) (n * p)
  have bU : lz (n * q + p * d) ≤ 400 := by omega
  have bV : lz (d * q - n * p) ≤ 400 := by omega
  generalize n * q + p * d = U at *
  generalize d * q - n * p = V at *
  have hs : (V : Rat) * V + U * U ≠ 0 := fun k => hV (sq_sum k).1
  have c := circle_eq hV hs
  rw [← hu] at c
  have hq0 : V * V + U * U ≠ 0 := fun k => hs (by rw [← Rat.intCast_mul, ← Rat.intCast_mul, ← Rat.intCast_add, k]; rfl)
  have c1 : (1 - u * u) / (1 + u * u) = Rat.divInt (V * V - U * U) (V * V + U * U) := by
    rw [← c.1, Rat.divInt_eq_div]
    simp only [Rat.intCast_sub, Rat.intCast_add, Rat.intCast_mul]
    grind
  have c2 : (u + u) / (1 + u * u) = Rat.divInt (V * U + U * V) (V * V + U * U) := by
    rw [← c.2, Rat.divInt_eq_div]
    simp only [Rat.intCast_add, Rat.intCast_mul]
    grind
  have a1 := len_int (V * V - U * U) hq0
  have a2 := len_int (V * U + U * V) hq0
  rw [c1, c2]
  have n1 := lz_mul V V
  have n2 := lz_mul U U
  have n3 := lz_mul V U
  have n4 := lz_mul U V
  have n5 := lz_sub (V * V) (U * U)
  have n6 := lz_add (V * V) (U * U)
  have n7 := lz_add (V * U) (U * V)
  omega
theorem gcircle_true (m1 m2 k1 k2 : Bool) (As1 As2 At1 At2 : Option Addr) (cs1 cs2 ct1 ct2 : Nat) (xs ys us vs : List Nat) (w : World) (r1 : Raw w As1 cs1 xs) (r2 : Raw w As2 cs2 ys) (r3 : Raw w At1 ct1 us) (r4 : Raw w At2 ct2 vs) (htab : powTab w) (bs : xs.length ≤ 1152921504606846975 ∧ ys.length ≤ 1152921504606846975) (bt : us.length ≤ 1152921504606846975 ∧ vs.length ≤ 1152921504606846975) :
    Calls Tryz.prog 8 #[.agg #[.bool m1, .slice As1 xs.length cs1, .bool m2, .slice As2 ys.length cs2], .agg #[.bool k1, .slice At1 us.length ct1, .bool k2, .slice At2 vs.length ct2]] w fun e w' => e = .returned (.bool true) ∧ Below w.heap.size w w' := by
  have g_s : FracRaw w (.agg #[.bool m1, .slice As1 xs.length cs1, .bool m2, .slice As2 ys.length cs2]) m1 m2 xs ys := ⟨_, _, _, _, rfl, r1, r2⟩
  have g_t : FracRaw w (.agg #[.bool k1, .slice At1 us.length ct1, .bool k2, .slice At2 vs.length ct2]) k1 k2 us vs := ⟨_, _, _, _, rfl, r3, r4⟩
  have C1 : NumF 30 m1 m2 xs ys (fcost xs.length ys.length : Nat) := fun V v g => by
    obtain ⟨A, c, B, e, rfl, h1, h2⟩ := g.form
    exact frac_cost m1 m2 A B c e xs ys bs.1 bs.2 V h1 h2
  have C3 : NumF 43 m1 m2 xs ys ((1 + xs.length + (1 + ys.length) : Nat) : Int) := fun V v g => by
    obtain ⟨A, c, B, e, rfl, -⟩ := g.form
    exact frac_size m1 m2 A B c e xs ys bs.1 bs.2 V
  have C4 : NumF 43 k1 k2 us vs ((1 + us.length + (1 + vs.length) : Nat) : Int) := fun V v g => by
    obtain ⟨A, c, B, e, rfl, -⟩ := g.form
    exact frac_size k1 k2 A B c e us vs bt.1 bt.2 V
  have C5 : NumF 44 m1 m2 xs ys (chkE m1 m2 xs ys) := fun V v g => by
    obtain ⟨A, c, B, e, rfl, h1, h2⟩ := g.form
    exact frac_Check m1 m2 A B c e xs ys V h1 h2
  have C6 : NumF 44 k1 k2 us vs (chkE k1 k2 us vs) := fun V v g => by
    obtain ⟨A, c, B, e, rfl, h1, h2⟩ := g.form
    exact frac_Check k1 k2 A B c e us vs V h1 h2
  have b1 := fcost_le bs.1 bs.2
  have C2 : BeyF (fcost xs.length ys.length) (decide (1048576 < [fcost xs.length ys.length].sum)) := fun u V h => beyond_of2 [fcost xs.length ys.length] _ (by simp) (by simp; omega) rfl u V h
  have one1 : ∀ m1 m2 xs ys, chkE m1 m2 xs ys = 0 ∨ chkE m1 m2 xs ys = 1 := fun m1 m2 xs ys => by
    unfold chkE
    split <;> (try split) <;> simp
  cases hb : decide (1048576 < [fcost xs.length ys.length].sum) with
  | true => rw [hb] at C2; exact gcircle_way0 C1 C2 w _ _ g_s g_t htab
  | false =>
    rw [hb] at C2
    by_cases q1 : (1 + xs.length + (1 + ys.length) : Nat) ≤ 200
    · by_cases q2 : (1 + us.length + (1 + vs.length) : Nat) ≤ 200
      · rcases one1 m1 m2 xs ys with h5 | h5
        · rcases one1 k1 k2 us vs with h6 | h6
          · obtain ⟨n, d, f1, rfl, rfl, rfl, rfl⟩ := fine_of r1.limbs r2.limbs h5
            obtain ⟨p, q, f2, rfl, rfl, rfl, rfl⟩ := fine_of r3.limbs r4.limbs h6
            rw [h5] at C5
            rw [h6] at C6
            obtain ⟨i1, z1⟩ := f1.is_
            obtain ⟨i2, z2⟩ := f2.is_
            have s1 : ln (Rat.divInt n d) + ld (Rat.divInt n d) ≤ 198 := by
              have h := i1.len
              unfold lz at h
              omega
            have s2 : ln (Rat.divInt p q) + ld (Rat.divInt p q) ≤ 198 := by
              have h := i2.len
              unfold lz at h
              omega
            have U1 := fun N D M E h V v g => gunit_c (N := N) (D := D) (M := M) (E := E) f1 h V v g
            have U2 := fun N D M E h V v g => gunit_c (N := N) (D := D) (M := M) (E := E) f2 h V v g
            have HU := fun h u hu => two_len (n := n) (d := d) (p := p) (q := q) (by have := f1.pos; omega) (by have := f2.pos; omega) h (by have h := i1.len; unfold lz at *; omega) (by have h := i2.len; unfold lz at *; omega) (u := u) hu
            generalize Rat.divInt n d = s at i1 z1 s1 U1 HU
            generalize Rat.divInt p q = t at i2 z2 s2 U2 HU
            have l1 := unit_len s1
            have l2 := unit_len s2
            have o1 : ln (1 : Rat) = 1 := by decide +kernel
            have o2 : ld (1 : Rat) = 1 := by decide +kernel
            have p1 := ln_mul s t
            have p2 := ln_sub 1 (s * t)
            have p3 := ln_add s t
            rw [o1, o2] at p2
            have GX := GIs.mk_ (Is.of ((1 - s * s) / (1 + s * s))) (Is.of ((s + s) / (1 + s * s))) (Nat.le_trans l1.1.1 (by decide)) (Nat.le_trans l1.1.2 (by decide)) (Nat.le_trans l1.2.1 (by decide)) (Nat.le_trans l1.2.2 (by decide))
            have GY := GIs.mk_ (Is.of ((1 - t * t) / (1 + t * t))) (Is.of ((t + t) / (1 + t * t))) (Nat.le_trans l2.1.1 (by decide)) (Nat.le_trans l2.1.2 (by decide)) (Nat.le_trans l2.2.1 (by decide)) (Nat.le_trans l2.2.2 (by decide))
            have N1 : Is (((1 - s * s) / (1 + s * s)) * ((1 - s * s) / (1 + s * s)) + ((s + s) / (1 + s * s)) * ((s + s) / (1 + s * s))) 1 1 := by rw [circle_one]; exact is_unit
            have v1 : lz (s * t).num ≤ 2048 := Nat.le_trans p1.1 (by omega)
            have v2 : lz ((s * t).den : Int) ≤ 2048 := Nat.le_trans p1.2 (by omega)
            have v3 : lz (1 - s * t).num ≤ 2048 := Nat.le_trans p2.1 (by omega)
            have v4 : lz ((1 - s * t).den : Int) ≤ 2048 := Nat.le_trans p2.2 (by omega)
            have v5 : lz (s + t).num ≤ 2048 := Nat.le_trans p3.1 (by omega)
            have v6 : lz ((s + t).den : Int) ≤ 2048 := Nat.le_trans p3.2 (by omega)
            have fo : Fine 1 1 := is_unit.fine (by decide +kernel) (by decide +kernel)
            have fm := (Is.of (s * t)).fine v1 v2
            have fd := (Is.of (1 - s * t)).fine v3 v4
            have fa := (Is.of (s + t)).fine v5 v6
            have OF : ∀ V : World, Calls Tryz.prog 45 #[.int .i64 1, .int .i64 1] V (RetFracOwn2 V.heap.size V 1 1 0) := fun V => by
              have k := frac_Of 1 1 (by decide) (by decide) (by decide) (by decide) V
              rw [show zN 1 1 = 1 by decide +kernel, show zD 1 1 = 1 by decide +kernel, show zE 1 = 0 by decide +kernel] at k
              exact k
            by_cases h0 : 1 - s * t = 0
            · have e := circle_back s t h0
              have x9 := gis_int (-1) 0 (by decide) (by decide) (by decide) (by decide)
              have GZ : GIs (((1 - s * s) / (1 + s * s)) * ((1 - t * t) / (1 + t * t)) - ((s + s) / (1 + s * s)) * ((t + t) / (1 + t * t))) (((1 - s * s) / (1 + s * s)) * ((t + t) / (1 + t * t)) + ((s + s) / (1 + s * s)) * ((1 - t * t) / (1 + t * t))) (-1) 1 0 1 := by rw [e.1, e.2]; exact x9
              exact gcircle_zero C1 C2 C3 (by omega) C4 (by omega) C5 C6 (U1 _ _ _ _ GX) (U2 _ _ _ _ GY) (fun V v g => gnorm_c GX N1 (by decide +kernel) (by decide +kernel) V v g) OF (fmul_c i1 f1 i2 f2 (Is.of _) v1 v2) (fsub_c is_unit fo (Is.of _) fm (Is.of _) v3 v4) (fadd_c i1 f1 i2 f2 (Is.of _) v5 v6) (law_times (gmul_c GX GY GZ)) (fsign_c fd) (by rw [h0]; decide)
                (of_g 1 rfl (by decide) (by decide) (by decide) (by decide)) w _ _ ⟨_, _, _, _, rfl, r1, r2⟩ ⟨_, _, _, _, rfl, r3, r4⟩ htab
            · have e := circle_two s t h0
              have p4 := ln_quo (s + t) (1 - s * t) h0
              have s3 : ln ((s + t) / (1 - s * t)) + ld ((s + t) / (1 - s * t)) ≤ 2000 := by omega
              have v7 : lz ((s + t) / (1 - s * t)).num ≤ 2048 := Nat.le_trans p4.1 (by omega)
              have v8 : lz (((s + t) / (1 - s * t)).den : Int) ≤ 2048 := Nat.le_trans p4.2 (by omega)
              have fu := (Is.of ((s + t) / (1 - s * t))).fine v7 v8
              obtain ⟨u, hu⟩ : ∃ u, u = (s + t) / (1 - s * t) := ⟨_, rfl⟩
              have l3 := HU h0 u hu
              rw [← hu] at e v7 v8 fu
              have GU := GIs.mk_ (Is.of ((1 - u * u) / (1 + u * u))) (Is.of ((u + u) / (1 + u * u))) l3.1.1 l3.1.2 l3.2.1 l3.2.2
              have GZ := GU.re_eq e.1 e.2
              have GU2 : GIs ((1 - Rat.divInt u.num u.den * Rat.divInt u.num u.den) / (1 + Rat.divInt u.num u.den * Rat.divInt u.num u.den)) ((Rat.divInt u.num u.den + Rat.divInt u.num u.den) / (1 + Rat.divInt u.num u.den * Rat.divInt u.num u.den)) ((1 - u * u) / (1 + u * u)).num ((1 - u * u) / (1 + u * u)).den ((u + u) / (1 + u * u)).num ((u + u) / (1 + u * u)).den := by rw [← (Is.of u).eq]; exact GU
              exact gcircle_more C1 C2 C3 (by omega) C4 (by omega) C5 C6 (U1 _ _ _ _ GX) (U2 _ _ _ _ GY) (fun V v g => gnorm_c GX N1 (by decide +kernel) (by decide +kernel) V v g) OF (fmul_c i1 f1 i2 f2 (Is.of _) v1 v2) (fsub_c is_unit fo (Is.of _) fm (Is.of _) v3 v4) (fadd_c i1 f1 i2 f2 (Is.of _) v5 v6) (law_times (gmul_c GX GY GZ)) (fsign_c fd) (sign_eq0 _ false (decide_eq_false fun k => h0 ((Is.of (1 - s * t)).nought.1 k)))
                (fquo_c (Is.of (s + t)) fa (Is.of (1 - s * t)) fd h0 (by rw [← hu]; exact Is.of u) v7 v8) (fun V v g => gunit_c fu GU2 V v g) w _ _ ⟨_, _, _, _, rfl, r1, r2⟩ ⟨_, _, _, _, rfl, r3, r4⟩ htab
          · rw [h6] at C6
            rw [h5] at C5
            exact gcircle_way4 C1 C2 C3 (by omega) C4 (by omega) C5 C6 w _ _ g_s g_t htab
        · rw [h5] at C5
          exact gcircle_way3 C1 C2 C3 (by omega) C4 (by omega) C5 w _ _ g_s g_t htab
      · exact gcircle_way2 C1 C2 C3 (by omega) C4 (by omega) w _ _ g_s g_t htab
    · exact gcircle_way1 C1 C2 C3 (by omega) w _ _ g_s g_t htab
end Go.Proofs.YthlehkjcfhnplaaGreatDoor
