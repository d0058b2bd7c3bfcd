/- Several texts in one: NormsLawW. -/
import Derived.Test.YthlehkjcfhnplaaGreatDoorGnNormsW
import Derived.Test.YthlehkjcfhnplaaGreatDoorGn36
import Derived.Test.YthlehkjcfhnplaaGreatDoorGn45
import Derived.Test.YthlehkjcfhnplaaGreatDoorGn33
import Derived.Test.YthlehkjcfhnplaaGreatDoorGn27
import Derived.Test.YthlehkjcfhnplaaGreatDoorGn22
import Derived.Test.YthlehkjcfhnplaaGreatDoorGn43
import Derived.Test.YthlehkjcfhnplaaGreatDoorGn14
import Derived.Test.YthlehkjcfhnplaaGreatDoorGn12
import Derived.Test.YthlehkjcfhnplaaGreatDoorGn13
import Derived.Test.YthlehkjcfhnplaaGreatDoorGn07
import Derived.Test.YthlehkjcfhnplaaGreatDoorGn08
import Derived.Test.YthlehkjcfhnplaaGreatDoorGn10
import Derived.Test.YthlehkjcfhnplaaGreatDoorGn03
import Derived.Test.YthlehkjcfhnplaaGreatDoorGn02
import Derived.Test.YthlehkjcfhnplaaGreatDoorGn01
import Derived.Test.YthlehkjcfhnplaaGreatDoorGn09
import Derived.Test.YthlehkjcfhnplaaGreatDoorGn05
import Derived.Test.YthlehkjcfhnplaaGreatDoorGn04
import Derived.Test.YthlehkjcfhnplaaGreatDoorGn06
import Derived.Test.YthlehkjcfhnplaaGreatDoorGn11
import Derived.Test.YthlehkjcfhnplaaGreatDoorGn21
import Derived.Test.YthlehkjcfhnplaaGreatDoorGn20
import Derived.Test.YthlehkjcfhnplaaGreatDoorGn42
import Derived.Test.YthlehkjcfhnplaaGreatDoorGn19
import Derived.Test.YthlehkjcfhnplaaGreatDoorGn18
import Derived.Test.YthlehkjcfhnplaaGreatDoorGn16
import Derived.Test.YthlehkjcfhnplaaGreatDoorGn15
import Derived.Test.YthlehkjcfhnplaaGreatDoorGn17
import Derived.Test.YthlehkjcfhnplaaGreatDoorGn24
import Derived.Test.YthlehkjcfhnplaaGreatDoorGn25
import Derived.Test.YthlehkjcfhnplaaGreatDoorGn26
import Derived.Test.YthlehkjcfhnplaaGreatDoorGn23
import Derived.Test.YthlehkjcfhnplaaGreatDoorGn32
import Derived.Test.YthlehkjcfhnplaaGreatDoorGn44
import Derived.Test.YthlehkjcfhnplaaGreatDoorGn30
import Derived.Test.YthlehkjcfhnplaaGreatDoorGn31
import Derived.Test.YthlehkjcfhnplaaGreatDoorGn29
import Derived.Test.YthlehkjcfhnplaaGreatDoorGn28
import Derived.Test.YthlehkjcfhnplaaGreatDoorGn35
import Derived.Test.YthlehkjcfhnplaaGreatDoorGn34
set_option maxRecDepth 100000
set_option maxHeartbeats 8000000
/- GaussNorms of whatever comes in. (Written by wip/gauss/gennormslaw.py.) -/
namespace Go.Proofs.YthlehkjcfhnplaaGreatDoor
open Go.RowKit

theorem gnorm_len {a b : Rat} {k : Nat} (h : ln a + ld a + (ln b + ld b) ≤ k) : ln (a * a + b * b) ≤ 2 * k + 1 ∧ ld (a * a + b * b) ≤ 2 * k := by
  have p1 := ln_mul a a
  have p2 := ln_mul b b
  have p3 := ln_add (a * a) (b * b)
  omega
theorem gnorms_true {n1 n2 n3 n4 : Bool} {xs ys us vs : List Nat} {m1 m2 m3 m4 : Bool} {ps qs ks ts : List Nat} (w : World) (v_x v_y : Value) (g_x : GaussRaw w v_x n1 n2 n3 n4 xs ys us vs) (g_y : GaussRaw w v_y m1 m2 m3 m4 ps qs ks ts) (htab : powTab w) (bqx : lens4 xs ys us vs) (bqy : lens4 ps qs ks ts) :
    Calls Tryz.prog 7 #[v_x, v_y] w fun e w' => e = .returned (.bool true) ∧ Below w.heap.size w w' := by
  obtain ⟨Ax1, cx1, Ax2, cx2, Ax3, cx3, Ax4, cx4, rfl, rx1, rx2, rx3, rx4⟩ := g_x.form
  have Lx := And.intro (And.intro rx1.limbs rx2.limbs) (And.intro rx3.limbs rx4.limbs)
  obtain ⟨Ay1, cy1, Ay2, cy2, Ay3, cy3, Ay4, cy4, rfl, ry1, ry2, ry3, ry4⟩ := g_y.form
  have Ly := And.intro (And.intro ry1.limbs ry2.limbs) (And.intro ry3.limbs ry4.limbs)
  obtain ⟨bb, hb⟩ : ∃ bb : Bool, bb = (decide (300 < 1 + xs.length + (1 + ys.length) + (1 + us.length + (1 + vs.length))) || (decide (300 < 1 + ps.length + (1 + qs.length) + (1 + ks.length + (1 + ts.length))))) := ⟨_, rfl⟩
  have CB := fun (V : World) (g : Nat) (hg : V.heap.size = g) (g0 : GaussRaw V (.agg #[.bool n1, .slice Ax1 xs.length cx1, .bool n2, .slice Ax2 ys.length cx2, .bool n3, .slice Ax3 us.length cx3, .bool n4, .slice Ax4 vs.length cx4]) n1 n2 n3 n4 xs ys us vs) (g1 : GaussRaw V (.agg #[.bool m1, .slice Ay1 ps.length cy1, .bool m2, .slice Ay2 qs.length cy2, .bool m3, .slice Ay3 ks.length cy3, .bool m4, .slice Ay4 ts.length cy4]) m1 m2 m3 m4 ps qs ks ts) => big_2 bb bqx bqy hb V g hg g0 g1
  cases bb with
  | true => exact gnorms_big CB w g_x g_y htab
  | false =>
    have hs : 1 + xs.length + (1 + ys.length) + (1 + us.length + (1 + vs.length)) ≤ 300 ∧ 1 + ps.length + (1 + qs.length) + (1 + ks.length + (1 + ts.length)) ≤ 300 := by
      have h9 := hb.symm
      simp only [Bool.or_eq_false_iff, decide_eq_false_iff_not] at h9
      omega
    clear hb
    have mx0 := may_raw n1 n2 n3 n4 xs ys us vs
    rcases may_cases (n1 := n1) (n2 := n2) (n3 := n3) (n4 := n4) Lx.1.1 Lx.1.2 Lx.2.1 Lx.2.2 with h | ⟨n, d, m, f, f1, f2, e1, e2, e3, e4, e5, e6, e7, e8⟩
    · rw [h] at mx0
      exact gnorms_bad0 CB  (fun V v g => gauss_Check_false mx0 V v g) w g_x g_y htab
    subst e1 e2 e3 e4 e5 e6 e7 e8
    rw [may_true f1 f2] at mx0
    have K0 := fun (V : World) (v : Value) (g : GaussRaw V v (decide (n < 0)) (decide (d < 0)) (decide (m < 0)) (decide (f < 0)) (natL n.natAbs) (natL d.natAbs) (natL m.natAbs) (natL f.natAbs)) => gauss_Check_true mx0 V v g
    have mx1 := may_raw m1 m2 m3 m4 ps qs ks ts
    rcases may_cases (n1 := m1) (n2 := m2) (n3 := m3) (n4 := m4) Ly.1.1 Ly.1.2 Ly.2.1 Ly.2.2 with h | ⟨p, q, r, s, f3, f4, e1, e2, e3, e4, e5, e6, e7, e8⟩
    · rw [h] at mx1
      exact gnorms_bad1 CB K0 (fun V v g => gauss_Check_false mx1 V v g) w g_x g_y htab
    subst e1 e2 e3 e4 e5 e6 e7 e8
    rw [may_true f3 f4] at mx1
    have K1 := fun (V : World) (v : Value) (g : GaussRaw V v (decide (p < 0)) (decide (q < 0)) (decide (r < 0)) (decide (s < 0)) (natL p.natAbs) (natL q.natAbs) (natL r.natAbs) (natL s.natAbs)) => gauss_Check_true mx1 V v g
    have X0 := GIs.of f1 f2
    generalize Rat.divInt n d = ra at X0
    generalize Rat.divInt m f = rb at X0
    have s0 : ln ra + ld ra + (ln rb + ld rb) ≤ 296 := by
      have h1 := X0.re.len
      have h2 := X0.im.len
      unfold lz at h1 h2
      omega
    have X1 := GIs.of f3 f4
    generalize Rat.divInt p q = rc at X1
    generalize Rat.divInt r s = re at X1
    have s1 : ln rc + ld rc + (ln re + ld re) ≤ 296 := by
      have h1 := X1.re.len
      have h2 := X1.im.len
      unfold lz at h1 h2
      omega
    obtain ⟨k1, k2, k3, k4⟩ := gmul_len s0 s1
    have T := GIs.mk_ (Is.of (ra * rc - rb * re)) (Is.of (ra * re + rb * rc)) (Nat.le_trans k1 (by decide)) (Nat.le_trans k2 (by decide)) (Nat.le_trans k3 (by decide)) (Nat.le_trans k4 (by decide))
    obtain ⟨q1, q2⟩ := gnorm_len s0
    obtain ⟨q3, q4⟩ := gnorm_len s1
    obtain ⟨w1, w2⟩ := ln_mul (ra * ra + rb * rb) (rc * rc + re * re)
    have fa := (Is.of (ra * ra + rb * rb)).fine (show lz _ ≤ 2048 from Nat.le_trans q1 (by decide)) (show lz _ ≤ 2048 from Nat.le_trans q2 (by decide))
    have fb := (Is.of (rc * rc + re * re)).fine (show lz _ ≤ 2048 from Nat.le_trans q3 (by decide)) (show lz _ ≤ 2048 from Nat.le_trans q4 (by decide))
    have v1 : lz ((ra * ra + rb * rb) * (rc * rc + re * re)).num ≤ 2048 := Nat.le_trans w1 (by omega)
    have v2 : lz (((ra * ra + rb * rb) * (rc * rc + re * re)).den : Int) ≤ 2048 := Nat.le_trans w2 (by omega)
    have N0 := Is.of ((ra * ra + rb * rb) * (rc * rc + re * re))
    have N1 : Is ((ra * rc - rb * re) * (ra * rc - rb * re) + (ra * re + rb * rc) * (ra * re + rb * rc)) ((ra * ra + rb * rb) * (rc * rc + re * re)).num ((ra * ra + rb * rb) * (rc * rc + re * re)).den := by rw [norm_mul]; exact N0
    have J : GIs ra (-rb) n d (-m) f := GIs.mk_ X0.re (is_neg X0.im) X0.f1.num X0.f1.den (by rw [lz_neg]; exact X0.f2.num) X0.f2.den
    have P : GIs (ra * ra - rb * -rb) (ra * -rb + rb * ra) (ra * ra + rb * rb).num (ra * ra + rb * rb).den 0 1 := by
      rw [(norm_conj ra rb).1, (norm_conj ra rb).2]
      exact GIs.mk_ (Is.of _) is_zero fa.num fa.den (by decide +kernel) (by decide +kernel)
    have hpos : 0 ≤ (ra * ra + rb * rb).num.sign := by
      have h1 := sq_nonneg ra
      have h2 := sq_nonneg rb
      have h3 : 0 ≤ (ra * ra + rb * rb).num := Rat.num_nonneg.2 (Rat.add_nonneg h1 h2)
      rcases Int.lt_or_eq_of_le h3 with h | h
      · rw [Int.sign_eq_one_of_pos h]; decide
      · rw [← h]; decide
    exact gnorms_good (fun V g hg g1 g2 => CB V g hg g1.raw g2.raw) (fun V v g => K0 V v g.raw) (fun V v g => K1 V v g.raw) (law_times (gmul_c X0 X1 T)) (fun V v g => gnorm_c T N1 v1 v2 V v g) (fun V v g => gnorm_c X0 (Is.of _) fa.num fa.den V v g) (fun V v g => gnorm_c X1 (Is.of _) fb.num fb.den V v g)
      (fmul_c (Is.of _) fa (Is.of _) fb N0 v1 v2) (fun V v g => gconj_c X0 V v g) (law_times (gmul_c X0 J P)) (fsign_c P.f2) (fsign_c fa) hpos w ⟨_, _, _, _, _, _, _, _, rfl, rx1, rx2, rx3, rx4⟩ ⟨_, _, _, _, _, _, _, _, rfl, ry1, ry2, ry3, ry4⟩ htab
end Go.Proofs.YthlehkjcfhnplaaGreatDoor
