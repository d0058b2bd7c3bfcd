/- Several texts in one: FieldLawW. -/
import Derived.Test.YthlehkjcfhnplaaGreatDoorGnFieldW
import Derived.Test.YthlehkjcfhnplaaGreatDoorGn36
import Derived.Test.YthlehkjcfhnplaaGreatDoorGn40
import Derived.Test.YthlehkjcfhnplaaGreatDoorGn41
import Derived.Test.YthlehkjcfhnplaaGreatDoorGn30
import Derived.Test.YthlehkjcfhnplaaGreatDoorGn28
import Derived.Test.YthlehkjcfhnplaaGreatDoorGn19
import Derived.Test.YthlehkjcfhnplaaGreatDoorGn23
import Derived.Test.YthlehkjcfhnplaaGreatDoorGn27
import Derived.Test.YthlehkjcfhnplaaGreatDoorGn22
import Derived.Test.YthlehkjcfhnplaaGreatDoorGn14
import Derived.Test.YthlehkjcfhnplaaGreatDoorGn12
import Derived.Test.YthlehkjcfhnplaaGreatDoorGn13
import Derived.Test.YthlehkjcfhnplaaGreatDoorGn07
import Derived.Test.YthlehkjcfhnplaaGreatDoorGn08
import Derived.Test.YthlehkjcfhnplaaGreatDoorGn10
import Derived.Test.YthlehkjcfhnplaaGreatDoorGn03
import Derived.Test.YthlehkjcfhnplaaGreatDoorGn02
import Derived.Test.YthlehkjcfhnplaaGreatDoorGn01
import Derived.Test.YthlehkjcfhnplaaGreatDoorGn09
import Derived.Test.YthlehkjcfhnplaaGreatDoorGn05
import Derived.Test.YthlehkjcfhnplaaGreatDoorGn04
import Derived.Test.YthlehkjcfhnplaaGreatDoorGn06
import Derived.Test.YthlehkjcfhnplaaGreatDoorGn11
import Derived.Test.YthlehkjcfhnplaaGreatDoorGn21
import Derived.Test.YthlehkjcfhnplaaGreatDoorGn20
import Derived.Test.YthlehkjcfhnplaaGreatDoorGn18
import Derived.Test.YthlehkjcfhnplaaGreatDoorGn16
import Derived.Test.YthlehkjcfhnplaaGreatDoorGn15
import Derived.Test.YthlehkjcfhnplaaGreatDoorGn17
import Derived.Test.YthlehkjcfhnplaaGreatDoorGn24
import Derived.Test.YthlehkjcfhnplaaGreatDoorGn25
import Derived.Test.YthlehkjcfhnplaaGreatDoorGn26
import Derived.Test.YthlehkjcfhnplaaGreatDoorGn29
import Derived.Test.YthlehkjcfhnplaaGreatDoorGn33
import Derived.Test.YthlehkjcfhnplaaGreatDoorGn32
import Derived.Test.YthlehkjcfhnplaaGreatDoorGn39
import Derived.Test.YthlehkjcfhnplaaGreatDoorGn31
import Derived.Test.YthlehkjcfhnplaaGreatDoorGn38
import Derived.Test.YthlehkjcfhnplaaGreatDoorGn35
import Derived.Test.YthlehkjcfhnplaaGreatDoorGn34
set_option maxRecDepth 100000
set_option maxHeartbeats 8000000
/- GaussField of whatever comes in. (Written by wip/gauss/genfieldlaw.py.) -/
namespace Go.Proofs.YthlehkjcfhnplaaGreatDoor
open Go.RowKit

theorem gfield_true {n1 n2 n3 n4 : Bool} {xs ys us vs : List Nat} {m1 m2 m3 m4 : Bool} {ps qs ks ts : List Nat} {k1 k2 k3 k4 : Bool} {os bs cs ds : List Nat} (w : World) (v_x v_y v_z : Value) (g_x : GaussRaw w v_x n1 n2 n3 n4 xs ys us vs) (g_y : GaussRaw w v_y m1 m2 m3 m4 ps qs ks ts) (g_z : GaussRaw w v_z k1 k2 k3 k4 os bs cs ds) (htab : powTab w) (bqx : lens4 xs ys us vs) (bqy : lens4 ps qs ks ts) (bqz : lens4 os bs cs ds) :
    Calls Tryz.prog 5 #[v_x, v_y, v_z] w fun e w' => e = .returned (.bool true) ∧ Below w.heap.size w w' := by
  obtain ⟨Ax1, cx1, Ax2, cx2, Ax3, cx3, Ax4, cx4, rfl, rx1, rx2, rx3, rx4⟩ := g_x.form
  have Lx := And.intro (And.intro rx1.limbs rx2.limbs) (And.intro rx3.limbs rx4.limbs)
  obtain ⟨Ay1, cy1, Ay2, cy2, Ay3, cy3, Ay4, cy4, rfl, ry1, ry2, ry3, ry4⟩ := g_y.form
  have Ly := And.intro (And.intro ry1.limbs ry2.limbs) (And.intro ry3.limbs ry4.limbs)
  obtain ⟨Az1, cz1, Az2, cz2, Az3, cz3, Az4, cz4, rfl, rz1, rz2, rz3, rz4⟩ := g_z.form
  have Lz := And.intro (And.intro rz1.limbs rz2.limbs) (And.intro rz3.limbs rz4.limbs)
  obtain ⟨bb, hb⟩ : ∃ bb : Bool, bb = (decide (300 < 1 + xs.length + (1 + ys.length) + (1 + us.length + (1 + vs.length))) || (decide (300 < 1 + ps.length + (1 + qs.length) + (1 + ks.length + (1 + ts.length))) || (decide (300 < 1 + os.length + (1 + bs.length) + (1 + cs.length + (1 + ds.length)))))) := ⟨_, rfl⟩
  have CB := fun (V : World) (g : Nat) (hg : V.heap.size = g) (g0 : GaussRaw V (.agg #[.bool n1, .slice Ax1 xs.length cx1, .bool n2, .slice Ax2 ys.length cx2, .bool n3, .slice Ax3 us.length cx3, .bool n4, .slice Ax4 vs.length cx4]) n1 n2 n3 n4 xs ys us vs) (g1 : GaussRaw V (.agg #[.bool m1, .slice Ay1 ps.length cy1, .bool m2, .slice Ay2 qs.length cy2, .bool m3, .slice Ay3 ks.length cy3, .bool m4, .slice Ay4 ts.length cy4]) m1 m2 m3 m4 ps qs ks ts) (g2 : GaussRaw V (.agg #[.bool k1, .slice Az1 os.length cz1, .bool k2, .slice Az2 bs.length cz2, .bool k3, .slice Az3 cs.length cz3, .bool k4, .slice Az4 ds.length cz4]) k1 k2 k3 k4 os bs cs ds) => big_3 bb bqx bqy bqz hb V g hg g0 g1 g2
  cases bb with
  | true => exact gfield_big CB w g_x g_y g_z htab
  | false =>
    have hs : 1 + xs.length + (1 + ys.length) + (1 + us.length + (1 + vs.length)) ≤ 300 ∧ 1 + ps.length + (1 + qs.length) + (1 + ks.length + (1 + ts.length)) ≤ 300 ∧ 1 + os.length + (1 + bs.length) + (1 + cs.length + (1 + ds.length)) ≤ 300 := by
      have h9 := hb.symm
      simp only [Bool.or_eq_false_iff, decide_eq_false_iff_not] at h9
      omega
    clear hb
    have mx0 := may_raw n1 n2 n3 n4 xs ys us vs
    rcases may_cases (n1 := n1) (n2 := n2) (n3 := n3) (n4 := n4) Lx.1.1 Lx.1.2 Lx.2.1 Lx.2.2 with h | ⟨n, d, m, f, f1, f2, e1, e2, e3, e4, e5, e6, e7, e8⟩
    · rw [h] at mx0
      exact gfield_bad0 CB  (fun V v g => gauss_Check_false mx0 V v g) w g_x g_y g_z htab
    subst e1 e2 e3 e4 e5 e6 e7 e8
    rw [may_true f1 f2] at mx0
    have K0 := fun (V : World) (v : Value) (g : GaussRaw V v (decide (n < 0)) (decide (d < 0)) (decide (m < 0)) (decide (f < 0)) (natL n.natAbs) (natL d.natAbs) (natL m.natAbs) (natL f.natAbs)) => gauss_Check_true mx0 V v g
    have mx1 := may_raw m1 m2 m3 m4 ps qs ks ts
    rcases may_cases (n1 := m1) (n2 := m2) (n3 := m3) (n4 := m4) Ly.1.1 Ly.1.2 Ly.2.1 Ly.2.2 with h | ⟨p, q, r, s, f3, f4, e1, e2, e3, e4, e5, e6, e7, e8⟩
    · rw [h] at mx1
      exact gfield_bad1 CB K0 (fun V v g => gauss_Check_false mx1 V v g) w g_x g_y g_z htab
    subst e1 e2 e3 e4 e5 e6 e7 e8
    rw [may_true f3 f4] at mx1
    have K1 := fun (V : World) (v : Value) (g : GaussRaw V v (decide (p < 0)) (decide (q < 0)) (decide (r < 0)) (decide (s < 0)) (natL p.natAbs) (natL q.natAbs) (natL r.natAbs) (natL s.natAbs)) => gauss_Check_true mx1 V v g
    have mx2 := may_raw k1 k2 k3 k4 os bs cs ds
    rcases may_cases (n1 := k1) (n2 := k2) (n3 := k3) (n4 := k4) Lz.1.1 Lz.1.2 Lz.2.1 Lz.2.2 with h | ⟨a, b, c, l, f5, f6, e1, e2, e3, e4, e5, e6, e7, e8⟩
    · rw [h] at mx2
      exact gfield_bad2 CB K0 K1 (fun V v g => gauss_Check_false mx2 V v g) w g_x g_y g_z htab
    subst e1 e2 e3 e4 e5 e6 e7 e8
    rw [may_true f5 f6] at mx2
    have K2 := fun (V : World) (v : Value) (g : GaussRaw V v (decide (a < 0)) (decide (b < 0)) (decide (c < 0)) (decide (l < 0)) (natL a.natAbs) (natL b.natAbs) (natL c.natAbs) (natL l.natAbs)) => gauss_Check_true mx2 V v g
    have X0 := GIs.of f1 f2
    generalize Rat.divInt n d = ra at X0
    generalize Rat.divInt m f = rb at X0
    have s0 : ln ra + ld ra + (ln rb + ld rb) ≤ 296 := by
      have h1 := X0.re.len
      have h2 := X0.im.len
      unfold lz at h1 h2
      omega
    have X1 := GIs.of f3 f4
    generalize Rat.divInt p q = rc at X1
    generalize Rat.divInt r s = re at X1
    have s1 : ln rc + ld rc + (ln re + ld re) ≤ 296 := by
      have h1 := X1.re.len
      have h2 := X1.im.len
      unfold lz at h1 h2
      omega
    have X2 := GIs.of f5 f6
    generalize Rat.divInt a b = rg at X2
    generalize Rat.divInt c l = rh at X2
    have s2 : ln rg + ld rg + (ln rh + ld rh) ≤ 296 := by
      have h1 := X2.re.len
      have h2 := X2.im.len
      unfold lz at h1 h2
      omega
    have q1 := gadd_len ra rb rc re
    have q2 := gadd_len rc re rg rh
    have q3 := gadd_len (ra + rc) (rb + re) rg rh
    have q4 := gmul_len s0 s1
    have q5 := gmul_len s0 s2
    have q6 := gmul_len2 q4.1 q4.2.1 q4.2.2.1 q4.2.2.2 s2
    have q7 : ln (rc + rg) + ld (rc + rg) + (ln (re + rh) + ld (re + rh)) ≤ 1200 := by clear q1 q3 q4 q5 q6; omega
    have q8 : (ln (ra + rc) ≤ 2048 ∧ ld (ra + rc) ≤ 2048) ∧ ln (rb + re) ≤ 2048 ∧ ld (rb + re) ≤ 2048 := by clear q2 q3 q4 q5 q6 q7; omega
    have q9 : (ln (ra + rc + rg) ≤ 2048 ∧ ld (ra + rc + rg) ≤ 2048) ∧ ln (rb + re + rh) ≤ 2048 ∧ ld (rb + re + rh) ≤ 2048 := by clear q2 q4 q5 q6 q7 q8; omega
    have q10 : (ln (rc + rg) ≤ 2048 ∧ ld (rc + rg) ≤ 2048) ∧ ln (re + rh) ≤ 2048 ∧ ld (re + rh) ≤ 2048 := by clear q1 q3 q4 q5 q6 q8 q9; omega
    have q11 := gmul_len s0 q7
    have SA := GIs.mk_ (Is.of (ra + rc)) (Is.of (rb + re)) q8.1.1 q8.1.2 q8.2.1 q8.2.2
    have AB := GIs.mk_ (Is.of (ra + rc + rg)) (Is.of (rb + re + rh)) q9.1.1 q9.1.2 q9.2.1 q9.2.2
    have TC := GIs.mk_ (Is.of (ra * rc - rb * re)) (Is.of (ra * re + rb * rc)) (Nat.le_trans q4.1 (by decide)) (Nat.le_trans q4.2.1 (by decide)) (Nat.le_trans q4.2.2.1 (by decide)) (Nat.le_trans q4.2.2.2 (by decide))
    have CD := GIs.mk_ (Is.of ((ra * rc - rb * re) * rg - (ra * re + rb * rc) * rh)) (Is.of ((ra * rc - rb * re) * rh + (ra * re + rb * rc) * rg)) (Nat.le_trans q6.1 (by decide)) (Nat.le_trans q6.2.1 (by decide)) (Nat.le_trans q6.2.2.1 (by decide)) (Nat.le_trans q6.2.2.2 (by decide))
    have GD := GIs.mk_ (Is.of (rc + rg)) (Is.of (re + rh)) q10.1.1 q10.1.2 q10.2.1 q10.2.2
    have QE := GIs.mk_ (Is.of (ra * (rc + rg) - rb * (re + rh))) (Is.of (ra * (re + rh) + rb * (rc + rg))) (Nat.le_trans q11.1 (by decide)) (Nat.le_trans q11.2.1 (by decide)) (Nat.le_trans q11.2.2.1 (by decide)) (Nat.le_trans q11.2.2.2 (by decide))
    have HF := GIs.mk_ (Is.of (ra * rg - rb * rh)) (Is.of (ra * rh + rb * rg)) (Nat.le_trans q5.1 (by decide)) (Nat.le_trans q5.2.1 (by decide)) (Nat.le_trans q5.2.2.1 (by decide)) (Nat.le_trans q5.2.2.2 (by decide))
    clear q1 q2 q3 q4 q5 q6 q7 q8 q9 q10 q11 s0 s1 s2
    have e1 : rc + ra = ra + rc ∧ re + rb = rb + re := by constructor <;> grind
    have e2 : rc * ra - re * rb = ra * rc - rb * re ∧ rc * rb + re * ra = ra * re + rb * rc := by constructor <;> grind
    have e3 : rg + (ra + rc) = ra + rc + rg ∧ rh + (rb + re) = rb + re + rh := by constructor <;> grind
    have e4 : rg * (ra * rc - rb * re) - rh * (ra * re + rb * rc) = (ra * rc - rb * re) * rg - (ra * re + rb * rc) * rh ∧ rg * (ra * re + rb * rc) + rh * (ra * rc - rb * re) = (ra * rc - rb * re) * rh + (ra * re + rb * rc) * rg := by constructor <;> grind
    have Z0 := gis_int 0 0 (by decide) (by decide) (by decide) (by decide)
    have CB2 := fun (V : World) (g : Nat) (hg : V.heap.size = g) v1 v2 v3 => CB V g hg (GaussAt.raw v1) (GaussAt.raw v2) (GaussAt.raw v3)
    have OF := of_g (z0 := 0) (z1 := 0) 1 rfl (by decide) (by decide) (by decide) (by decide)
    have P1 := law_sum (gadd_c X0 X1 SA)
    have P2 := law_sum (gadd_c SA X2 AB)
    have P3 := law_sum (gadd_c X1 X0 (SA.re_eq e1.1 e1.2))
    have P4 := law_sum (gadd_c X2 SA (AB.re_eq e3.1 e3.2))
    have P5 := law_times (gmul_c X0 X1 TC)
    have P6 := law_times (gmul_c TC X2 CD)
    have P7 := law_times (gmul_c X1 X0 (TC.re_eq e2.1 e2.2))
    have P8 := law_times (gmul_c X2 TC (CD.re_eq e4.1 e4.2))
    have P9 := law_sum (gadd_c X1 X2 GD)
    have P10 := law_times (gmul_c X0 GD QE)
    have P11 := law_times (gmul_c X0 X2 HF)
    have P12 := law_sum (gadd_c TC HF (QE.re_eq (field_q ra rb rc re rg rh).1 (field_q ra rb rc re rg rh).2))
    have P13 := gsub_c AB X2 (SA.re_eq (field_less ra rb rc re rg rh).1 (field_less ra rb rc re rg rh).2)
    clear CB
    by_cases h0 : rg = 0 ∧ rh = 0
    · have z1 := X2.re.uniq (by rw [h0.1]; exact is_zero)
      have z2 := X2.im.uniq (by rw [h0.2]; exact is_zero)
      exact gfield_zero (k0 := 0) CB2 (fun V v g => K0 V v g.raw) (fun V v g => K1 V v g.raw) (fun V v g => K2 V v g.raw) P1 P2 P3 P4 P5 P6 P7 P8 P9 P10 P11 P12 P13 (gquo_zero CD X2 h0) OF
        (fun V v1 v2 g1 g2 => by rw [z1.1, z1.2, z2.1, z2.2] at g1; exact sameGauss_true V v1 v2 g1 g2) w ⟨_, _, _, _, _, _, _, _, rfl, rx1, rx2, rx3, rx4⟩ ⟨_, _, _, _, _, _, _, _, rfl, ry1, ry2, ry3, ry4⟩ ⟨_, _, _, _, _, _, _, _, rfl, rz1, rz2, rz3, rz4⟩ htab
    · exact gfield_quo CB2 (fun V v g => K0 V v g.raw) (fun V v g => K1 V v g.raw) (fun V v g => K2 V v g.raw) P1 P2 P3 P4 P5 P6 P7 P8 P9 P10 P11 P12 P13 (gquo_c CD X2 h0 (TC.re_eq (field_over ra rb rc re rg rh h0).1 (field_over ra rb rc re rg rh h0).2)) OF
        (fun V v1 v2 g1 g2 => sameGauss_false V v1 v2 g1 g2 (fun k => h0 ⟨X2.re.nought.1 k.1, X2.im.nought.1 k.2⟩)) w ⟨_, _, _, _, _, _, _, _, rfl, rx1, rx2, rx3, rx4⟩ ⟨_, _, _, _, _, _, _, _, rfl, ry1, ry2, ry3, ry4⟩ ⟨_, _, _, _, _, _, _, _, rfl, rz1, rz2, rz3, rz4⟩ htab
end Go.Proofs.YthlehkjcfhnplaaGreatDoor
