/- Several texts in one: CircleW. -/
import Derived.Test.YthlehkjcfhnplaaGreatDoorGc35
import Derived.Test.YthlehkjcfhnplaaGreatDoorGcHd
import Derived.Test.YthlehkjcfhnplaaGreatDoorGc36
import Derived.Test.YthlehkjcfhnplaaGreatDoorGc25
import Derived.Test.YthlehkjcfhnplaaGreatDoorGc24
set_option maxRecDepth 100000
set_option maxHeartbeats 8000000
/- GaussCircle: the walk. (Written by wip/gauss/gencircle.py.) -/
namespace Go.Proofs.YthlehkjcfhnplaaGreatDoor
open Go.RowKit

structure FRQ (w : World) (g : Nat) (n1 n2 : Bool) (A : Option Addr) (c : Nat) (B : Option Addr) (e : Nat) (xs ys : List Nat) : Prop where
  quad : Quad w g (.bool n1) (.slice A xs.length c) (.bool n2) (.slice B ys.length e)
  at_ : FracRaw w (.agg #[.bool n1, .slice A xs.length c, .bool n2, .slice B ys.length e]) n1 n2 xs ys
theorem FRQ.below {w w' : World} {g : Nat} {n1 n2 : Bool} {A : Option Addr} {c : Nat} {B : Option Addr} {e : Nat} {xs ys : List Nat} (h : FRQ w g n1 n2 A c B e xs ys) (hb : Below w.heap.size w w') : FRQ w' g n1 n2 A c B e xs ys := ⟨h.quad.below hb, h.at_.below hb⟩
abbrev NumF (F : FuncId) (n1 n2 : Bool) (xs ys : List Nat) (k : Int) : Prop := ∀ (V : World) (v : Value), FracRaw V v n1 n2 xs ys → Calls Tryz.prog F #[v] V fun e w' => e = .returned (.int .i64 k) ∧ Below V.heap.size V w'
abbrev BeyF (s : Nat) (b : Bool) : Prop := ∀ (u : Value) (V : World), SliceOf [s] u V → Calls Tryz.prog 18 #[u] V fun e w' => e = .returned (.bool b) ∧ Below V.heap.size V w'

theorem gcircle_way0 {m1 m2 k1 k2 : Bool} {xs ys us vs : List Nat} {s1 : Nat} (C1 : NumF 30 m1 m2 xs ys s1) (C2 : BeyF s1 true) (w : World) (v_s v_t : Value) (g_s : FracRaw w v_s m1 m2 xs ys) (g_t : FracRaw w v_t k1 k2 us vs) (htab : powTab w) :
    Calls Tryz.prog 8 #[v_s, v_t] w fun e w' => e = .returned (.bool true) ∧ Below w.heap.size w w' := by
  obtain ⟨As1, cs1, As2, cs2, rfl, -⟩ := g_s.form
  obtain ⟨At1, ct1, At2, ct2, rfl, -⟩ := g_t.form
  have HC1 := Hd C1
  have HC2 := Hd C2
  have HT := Hd htab
  clear C1 C2 htab
  go_enter Tryz.func8, Tryz.ntmps8
  go_upto_region 1 with fail
  refine boxes2 (P := fun W => Code.wp _ _ _ _ W) fun W p0 p1 b0 => ?_
  have F := Hd (((Kp.base b0).add (FRQ.mk (Quad.mk p1) (g_t.below b0)) (fun _ _ => FRQ.below)).add (FRQ.mk (Quad.mk p0) (g_s.below b0)) (fun _ _ => FRQ.below))
  clear b0 p0 p1 g_s g_t
  obtain ⟨V_s, -⟩ := F.out.h
  obtain ⟨l_s, a_s, b_s, c_s, d_s, -, -, -, -⟩ := V_s.quad.facts
  go_wp2_with fail
  refine (HC1.out W _ V_s.at_).mono ?_
  rintro e wx1 ⟨rfl, hb⟩
  have F := Hd (F.out.below hb)
  clear l_s a_s b_s c_s d_s V_s
  clear hb
  go_wp2_with fail
  refine (HC2.out _ _ (SliceOf.new [s1] _ _ _ rfl)).mono ?_
  rintro e wb ⟨rfl, hb⟩
  have hb := ((Below.refl wx1.heap.size wx1).alloc (Nat.le_refl _) _).trans (hb.mono (by simp))
  have F := Hd (F.out.below hb)
  clear hb
  obtain ⟨-, -, HB⟩ := F.out.h
  have HE := Hd HB
  clear HB
  go_wp2_with fail
  refine (alive_true wb (HT.out.below2 HE.out)).mono ?_
  rintro e vx ⟨rfl, hb⟩
  have HE := Hd (belowTo HE.out hb)
  clear hb
  go_wp2_with fail
  go_ret
  exact ⟨rfl, HE.out⟩

theorem gcircle_way1 {m1 m2 k1 k2 : Bool} {xs ys us vs : List Nat} {s1 : Nat} {s2 : Int} (C1 : NumF 30 m1 m2 xs ys s1) (C2 : BeyF s1 false) (C3 : NumF 43 m1 m2 xs ys s2) (h3 : 200 < s2) (w : World) (v_s v_t : Value) (g_s : FracRaw w v_s m1 m2 xs ys) (g_t : FracRaw w v_t k1 k2 us vs) (htab : powTab w) :
    Calls Tryz.prog 8 #[v_s, v_t] w fun e w' => e = .returned (.bool true) ∧ Below w.heap.size w w' := by
  obtain ⟨As1, cs1, As2, cs2, rfl, -⟩ := g_s.form
  obtain ⟨At1, ct1, At2, ct2, rfl, -⟩ := g_t.form
  have HC1 := Hd C1
  have HC2 := Hd C2
  have HC3 := Hd C3
  have HT := Hd htab
  clear C1 C2 C3 htab
  go_enter Tryz.func8, Tryz.ntmps8
  go_upto_region 1 with fail
  refine boxes2 (P := fun W => Code.wp _ _ _ _ W) fun W p0 p1 b0 => ?_
  have F := Hd (((Kp.base b0).add (FRQ.mk (Quad.mk p1) (g_t.below b0)) (fun _ _ => FRQ.below)).add (FRQ.mk (Quad.mk p0) (g_s.below b0)) (fun _ _ => FRQ.below))
  clear b0 p0 p1 g_s g_t
  obtain ⟨V_s, -⟩ := F.out.h
  obtain ⟨l_s, a_s, b_s, c_s, d_s, -, -, -, -⟩ := V_s.quad.facts
  go_wp2_with fail
  refine (HC1.out W _ V_s.at_).mono ?_
  rintro e wx1 ⟨rfl, hb⟩
  have F := Hd (F.out.below hb)
  clear l_s a_s b_s c_s d_s V_s
  clear hb
  go_wp2_with fail
  refine (HC2.out _ _ (SliceOf.new [s1] _ _ _ rfl)).mono ?_
  rintro e wb ⟨rfl, hb⟩
  have hb := ((Below.refl wx1.heap.size wx1).alloc (Nat.le_refl _) _).trans (hb.mono (by simp))
  have F := Hd (F.out.below hb)
  clear hb
  obtain ⟨V_s, -⟩ := F.out.h
  obtain ⟨l_s, a_s, b_s, c_s, d_s, -, -, -, -⟩ := V_s.quad.facts
  go_wp2_with fail
  refine (HC3.out wb _ V_s.at_).mono ?_
  rintro e wx2 ⟨rfl, hb⟩
  have F := Hd (F.out.below hb)
  clear l_s a_s b_s c_s d_s V_s
  clear hb
  obtain ⟨-, -, HB⟩ := F.out.h
  have HE := Hd HB
  clear HB
  go_wp2_with fail
  refine (alive_true wx2 (HT.out.below2 HE.out)).mono ?_
  rintro e vx ⟨rfl, hb⟩
  have HE := Hd (belowTo HE.out hb)
  clear hb
  go_wp2_with fail
  go_ret
  exact ⟨rfl, HE.out⟩

theorem gcircle_way2 {m1 m2 k1 k2 : Bool} {xs ys us vs : List Nat} {s1 : Nat} {s2 s3 : Int} (C1 : NumF 30 m1 m2 xs ys s1) (C2 : BeyF s1 false) (C3 : NumF 43 m1 m2 xs ys s2) (h3 : s2 ≤ 200) (C4 : NumF 43 k1 k2 us vs s3) (h4 : 200 < s3) (w : World) (v_s v_t : Value) (g_s : FracRaw w v_s m1 m2 xs ys) (g_t : FracRaw w v_t k1 k2 us vs) (htab : powTab w) :
    Calls Tryz.prog 8 #[v_s, v_t] w fun e w' => e = .returned (.bool true) ∧ Below w.heap.size w w' := by
  obtain ⟨As1, cs1, As2, cs2, rfl, -⟩ := g_s.form
  obtain ⟨At1, ct1, At2, ct2, rfl, -⟩ := g_t.form
  have HC1 := Hd C1
  have HC2 := Hd C2
  have HC3 := Hd C3
  have HC4 := Hd C4
  have HT := Hd htab
  clear C1 C2 C3 C4 htab
  go_enter Tryz.func8, Tryz.ntmps8
  go_upto_region 1 with fail
  refine boxes2 (P := fun W => Code.wp _ _ _ _ W) fun W p0 p1 b0 => ?_
  have F := Hd (((Kp.base b0).add (FRQ.mk (Quad.mk p1) (g_t.below b0)) (fun _ _ => FRQ.below)).add (FRQ.mk (Quad.mk p0) (g_s.below b0)) (fun _ _ => FRQ.below))
  clear b0 p0 p1 g_s g_t
  obtain ⟨V_s, -⟩ := F.out.h
  obtain ⟨l_s, a_s, b_s, c_s, d_s, -, -, -, -⟩ := V_s.quad.facts
  go_wp2_with fail
  refine (HC1.out W _ V_s.at_).mono ?_
  rintro e wx1 ⟨rfl, hb⟩
  have F := Hd (F.out.below hb)
  clear l_s a_s b_s c_s d_s V_s
  clear hb
  go_wp2_with fail
  refine (HC2.out _ _ (SliceOf.new [s1] _ _ _ rfl)).mono ?_
  rintro e wb ⟨rfl, hb⟩
  have hb := ((Below.refl wx1.heap.size wx1).alloc (Nat.le_refl _) _).trans (hb.mono (by simp))
  have F := Hd (F.out.below hb)
  clear hb
  obtain ⟨V_s, -⟩ := F.out.h
  obtain ⟨l_s, a_s, b_s, c_s, d_s, -, -, -, -⟩ := V_s.quad.facts
  go_wp2_with fail
  refine (HC3.out wb _ V_s.at_).mono ?_
  rintro e wx2 ⟨rfl, hb⟩
  have F := Hd (F.out.below hb)
  clear l_s a_s b_s c_s d_s V_s
  clear hb
  obtain ⟨-, V_t, -⟩ := F.out.h
  obtain ⟨l_t, a_t, b_t, c_t, d_t, -, -, -, -⟩ := V_t.quad.facts
  go_wp2_with fail
  refine (HC4.out wx2 _ V_t.at_).mono ?_
  rintro e wx3 ⟨rfl, hb⟩
  have F := Hd (F.out.below hb)
  clear l_t a_t b_t c_t d_t V_t
  clear hb
  obtain ⟨-, -, HB⟩ := F.out.h
  have HE := Hd HB
  clear HB
  go_wp2_with fail
  refine (alive_true wx3 (HT.out.below2 HE.out)).mono ?_
  rintro e vx ⟨rfl, hb⟩
  have HE := Hd (belowTo HE.out hb)
  clear hb
  go_wp2_with fail
  go_ret
  exact ⟨rfl, HE.out⟩

theorem gcircle_way3 {m1 m2 k1 k2 : Bool} {xs ys us vs : List Nat} {s1 : Nat} {s2 s3 : Int} (C1 : NumF 30 m1 m2 xs ys s1) (C2 : BeyF s1 false) (C3 : NumF 43 m1 m2 xs ys s2) (h3 : s2 ≤ 200) (C4 : NumF 43 k1 k2 us vs s3) (h4 : s3 ≤ 200) (C5 : NumF 44 m1 m2 xs ys 1) (w : World) (v_s v_t : Value) (g_s : FracRaw w v_s m1 m2 xs ys) (g_t : FracRaw w v_t k1 k2 us vs) (htab : powTab w) :
    Calls Tryz.prog 8 #[v_s, v_t] w fun e w' => e = .returned (.bool true) ∧ Below w.heap.size w w' := by
  obtain ⟨As1, cs1, As2, cs2, rfl, -⟩ := g_s.form
  obtain ⟨At1, ct1, At2, ct2, rfl, -⟩ := g_t.form
  have HC1 := Hd C1
  have HC2 := Hd C2
  have HC3 := Hd C3
  have HC4 := Hd C4
  have HC5 := Hd C5
  have HT := Hd htab
  clear C1 C2 C3 C4 C5 htab
  go_enter Tryz.func8, Tryz.ntmps8
  go_upto_region 1 with fail
  refine boxes2 (P := fun W => Code.wp _ _ _ _ W) fun W p0 p1 b0 => ?_
  have F := Hd (((Kp.base b0).add (FRQ.mk (Quad.mk p1) (g_t.below b0)) (fun _ _ => FRQ.below)).add (FRQ.mk (Quad.mk p0) (g_s.below b0)) (fun _ _ => FRQ.below))
  clear b0 p0 p1 g_s g_t
  obtain ⟨V_s, -⟩ := F.out.h
  obtain ⟨l_s, a_s, b_s, c_s, d_s, -, -, -, -⟩ := V_s.quad.facts
  go_wp2_with fail
  refine (HC1.out W _ V_s.at_).mono ?_
  rintro e wx1 ⟨rfl, hb⟩
  have F := Hd (F.out.below hb)
  clear l_s a_s b_s c_s d_s V_s
  clear hb
  go_wp2_with fail
  refine (HC2.out _ _ (SliceOf.new [s1] _ _ _ rfl)).mono ?_
  rintro e wb ⟨rfl, hb⟩
  have hb := ((Below.refl wx1.heap.size wx1).alloc (Nat.le_refl _) _).trans (hb.mono (by simp))
  have F := Hd (F.out.below hb)
  clear hb
  obtain ⟨V_s, -⟩ := F.out.h
  obtain ⟨l_s, a_s, b_s, c_s, d_s, -, -, -, -⟩ := V_s.quad.facts
  go_wp2_with fail
  refine (HC3.out wb _ V_s.at_).mono ?_
  rintro e wx2 ⟨rfl, hb⟩
  have F := Hd (F.out.below hb)
  clear l_s a_s b_s c_s d_s V_s
  clear hb
  obtain ⟨-, V_t, -⟩ := F.out.h
  obtain ⟨l_t, a_t, b_t, c_t, d_t, -, -, -, -⟩ := V_t.quad.facts
  go_wp2_with fail
  refine (HC4.out wx2 _ V_t.at_).mono ?_
  rintro e wx3 ⟨rfl, hb⟩
  have F := Hd (F.out.below hb)
  clear l_t a_t b_t c_t d_t V_t
  clear hb
  obtain ⟨V_s, -⟩ := F.out.h
  obtain ⟨l_s, a_s, b_s, c_s, d_s, -, -, -, -⟩ := V_s.quad.facts
  go_wp2_with fail
  refine (HC5.out wx3 _ V_s.at_).mono ?_
  rintro e wx4 ⟨rfl, hb⟩
  have F := Hd (F.out.below hb)
  clear l_s a_s b_s c_s d_s V_s
  clear hb
  obtain ⟨-, -, HB⟩ := F.out.h
  have HE := Hd HB
  clear HB
  go_wp2_with fail
  refine (alive_true wx4 (HT.out.below2 HE.out)).mono ?_
  rintro e vx ⟨rfl, hb⟩
  have HE := Hd (belowTo HE.out hb)
  clear hb
  go_wp2_with fail
  go_ret
  exact ⟨rfl, HE.out⟩

theorem gcircle_way4 {m1 m2 k1 k2 : Bool} {xs ys us vs : List Nat} {s1 : Nat} {s2 s3 : Int} (C1 : NumF 30 m1 m2 xs ys s1) (C2 : BeyF s1 false) (C3 : NumF 43 m1 m2 xs ys s2) (h3 : s2 ≤ 200) (C4 : NumF 43 k1 k2 us vs s3) (h4 : s3 ≤ 200) (C5 : NumF 44 m1 m2 xs ys 0) (C6 : NumF 44 k1 k2 us vs 1) (w : World) (v_s v_t : Value) (g_s : FracRaw w v_s m1 m2 xs ys) (g_t : FracRaw w v_t k1 k2 us vs) (htab : powTab w) :
    Calls Tryz.prog 8 #[v_s, v_t] w fun e w' => e = .returned (.bool true) ∧ Below w.heap.size w w' := by
  obtain ⟨As1, cs1, As2, cs2, rfl, -⟩ := g_s.form
  obtain ⟨At1, ct1, At2, ct2, rfl, -⟩ := g_t.form
  have HC1 := Hd C1
  have HC2 := Hd C2
  have HC3 := Hd C3
  have HC4 := Hd C4
  have HC5 := Hd C5
  have HC6 := Hd C6
  have HT := Hd htab
  clear C1 C2 C3 C4 C5 C6 htab
  go_enter Tryz.func8, Tryz.ntmps8
  go_upto_region 1 with fail
  refine boxes2 (P := fun W => Code.wp _ _ _ _ W) fun W p0 p1 b0 => ?_
  have F := Hd (((Kp.base b0).add (FRQ.mk (Quad.mk p1) (g_t.below b0)) (fun _ _ => FRQ.below)).add (FRQ.mk (Quad.mk p0) (g_s.below b0)) (fun _ _ => FRQ.below))
  clear b0 p0 p1 g_s g_t
  obtain ⟨V_s, -⟩ := F.out.h
  obtain ⟨l_s, a_s, b_s, c_s, d_s, -, -, -, -⟩ := V_s.quad.facts
  go_wp2_with fail
  refine (HC1.out W _ V_s.at_).mono ?_
  rintro e wx1 ⟨rfl, hb⟩
  have F := Hd (F.out.below hb)
  clear l_s a_s b_s c_s d_s V_s
  clear hb
  go_wp2_with fail
  refine (HC2.out _ _ (SliceOf.new [s1] _ _ _ rfl)).mono ?_
  rintro e wb ⟨rfl, hb⟩
  have hb := ((Below.refl wx1.heap.size wx1).alloc (Nat.le_refl _) _).trans (hb.mono (by simp))
  have F := Hd (F.out.below hb)
  clear hb
  obtain ⟨V_s, -⟩ := F.out.h
  obtain ⟨l_s, a_s, b_s, c_s, d_s, -, -, -, -⟩ := V_s.quad.facts
  go_wp2_with fail
  refine (HC3.out wb _ V_s.at_).mono ?_
  rintro e wx2 ⟨rfl, hb⟩
  have F := Hd (F.out.below hb)
  clear l_s a_s b_s c_s d_s V_s
  clear hb
  obtain ⟨-, V_t, -⟩ := F.out.h
  obtain ⟨l_t, a_t, b_t, c_t, d_t, -, -, -, -⟩ := V_t.quad.facts
  go_wp2_with fail
  refine (HC4.out wx2 _ V_t.at_).mono ?_
  rintro e wx3 ⟨rfl, hb⟩
  have F := Hd (F.out.below hb)
  clear l_t a_t b_t c_t d_t V_t
  clear hb
  obtain ⟨V_s, -⟩ := F.out.h
  obtain ⟨l_s, a_s, b_s, c_s, d_s, -, -, -, -⟩ := V_s.quad.facts
  go_wp2_with fail
  refine (HC5.out wx3 _ V_s.at_).mono ?_
  rintro e wx4 ⟨rfl, hb⟩
  have F := Hd (F.out.below hb)
  clear l_s a_s b_s c_s d_s V_s
  clear hb
  obtain ⟨-, V_t, -⟩ := F.out.h
  obtain ⟨l_t, a_t, b_t, c_t, d_t, -, -, -, -⟩ := V_t.quad.facts
  go_wp2_with fail
  refine (HC6.out wx4 _ V_t.at_).mono ?_
  rintro e wx5 ⟨rfl, hb⟩
  have F := Hd (F.out.below hb)
  clear l_t a_t b_t c_t d_t V_t
  clear hb
  obtain ⟨-, -, HB⟩ := F.out.h
  have HE := Hd HB
  clear HB
  go_wp2_with fail
  refine (alive_true wx5 (HT.out.below2 HE.out)).mono ?_
  rintro e vx ⟨rfl, hb⟩
  have HE := Hd (belowTo HE.out hb)
  clear hb
  go_wp2_with fail
  go_ret
  exact ⟨rfl, HE.out⟩

theorem gcircle_zero {n d p q x1 x2 x3 x4 y1 y2 y3 y4 z1 z2 z3 z4 i f1 f2 e1 e2 a1 a2 sg s2 s3 : Int} {s1 : Nat} (C1 : NumF 30 (decide (n < 0)) (decide (d < 0)) (natL n.natAbs) (natL d.natAbs) s1) (C2 : BeyF s1 false) (C3 : NumF 43 (decide (n < 0)) (decide (d < 0)) (natL n.natAbs) (natL d.natAbs) s2) (h3 : s2 ≤ 200) (C4 : NumF 43 (decide (p < 0)) (decide (q < 0)) (natL p.natAbs) (natL q.natAbs) s3) (h4 : s3 ≤ 200) (C5 : NumF 44 (decide (n < 0)) (decide (d < 0)) (natL n.natAbs) (natL d.natAbs) 0) (C6 : NumF 44 (decide (p < 0)) (decide (q < 0)) (natL p.natAbs) (natL q.natAbs) 0) (C7 : (∀ (V : World) (v : Value), FracAt V v n d → Calls Tryz.prog 34 #[v] V (RetGaussOwn2 V.heap.size V x1 x2 x3 x4 0))) (C8 : (∀ (V : World) (v : Value), FracAt V v p q → Calls Tryz.prog 34 #[v] V (RetGaussOwn2 V.heap.size V y1 y2 y3 y4 0))) (C9 : ∀ (V : World) (v : Value), GaussAt V v x1 x2 x3 x4 → Calls Tryz.prog 33 #[v] V (RetFracOwn2 V.heap.size V i i 0)) (C10 : ∀ V : World, Calls Tryz.prog 45 #[.int .i64 1, .int .i64 1] V (RetFracOwn2 V.heap.size V i i 0)) (C11 : OpR2 41 n d p q f1 f2) (C12 : OpR2 46 i i f1 f2 e1 e2) (C13 : OpR2 47 n d p q a1 a2) (C14 : OpS 27 x1 x2 x3 x4 y1 y2 y3 y4 z1 z2 z3 z4) (C15 : SgnF 42 e1 e2 sg) (hz : (sg == 0) = true) (C16 : ∀ V : World, Calls Tryz.prog 11 #[.int .i64 (-1), .int .i64 0] V (RetGaussOwn V.heap.size V z1 z2 z3 z4)) (w : World) (v_s v_t : Value) (g_s : FracAt w v_s n d) (g_t : FracAt w v_t p q) (htab : powTab w) :
    Calls Tryz.prog 8 #[v_s, v_t] w fun e w' => e = .returned (.bool true) ∧ Below w.heap.size w w' := by
  obtain ⟨As1, cs1, As2, cs2, rfl, r1, r2⟩ := g_s.form
  obtain ⟨At1, ct1, At2, ct2, rfl, r3, r4⟩ := g_t.form
  have HC1 := Hd C1
  have HC2 := Hd C2
  have HC3 := Hd C3
  have HC4 := Hd C4
  have HC5 := Hd C5
  have HC6 := Hd C6
  have HC7 := Hd C7
  have HC8 := Hd C8
  have HC9 := Hd C9
  have HC10 := Hd C10
  have HC11 := Hd C11
  have HC12 := Hd C12
  have HC13 := Hd C13
  have HC14 := Hd C14
  have HC15 := Hd C15
  have HC16 := Hd C16
  have HT := Hd htab
  clear C1 C2 C3 C4 C5 C6 C7 C8 C9 C10 C11 C12 C13 C14 C15 C16 htab
  go_enter Tryz.func8, Tryz.ntmps8
  go_upto_region 1 with fail
  refine boxes2 (P := fun W => Code.wp _ _ _ _ W) fun W p0 p1 b0 => ?_
  have F := Hd (((Kp.base b0).add (FV.mk (Quad.mk p1) (r3.below b0) (r4.below b0)) (fun _ _ => FV.below)).add (FV.mk (Quad.mk p0) (r1.below b0) (r2.below b0)) (fun _ _ => FV.below))
  clear b0 p0 p1 g_s g_t r1 r2 r3 r4
  have h34 := And.intro h3 h4
  obtain ⟨V_s, -⟩ := F.out.h
  obtain ⟨l_s, a_s, b_s, c_s, d_s, -, -, -, -⟩ := V_s.quad.facts
  go_wp2_with fail
  refine (HC1.out W _ V_s.at_.raw).mono ?_
  rintro e wx1 ⟨rfl, hb⟩
  have F := Hd (F.out.below hb)
  clear l_s a_s b_s c_s d_s V_s
  clear hb
  go_wp2_with fail
  refine (HC2.out _ _ (SliceOf.new [s1] _ _ _ rfl)).mono ?_
  rintro e wb ⟨rfl, hb⟩
  have hb := ((Below.refl wx1.heap.size wx1).alloc (Nat.le_refl _) _).trans (hb.mono (by simp))
  have F := Hd (F.out.below hb)
  clear hb
  obtain ⟨V_s, -⟩ := F.out.h
  obtain ⟨l_s, a_s, b_s, c_s, d_s, -, -, -, -⟩ := V_s.quad.facts
  go_wp2_with fail
  refine (HC3.out wb _ V_s.at_.raw).mono ?_
  rintro e wx2 ⟨rfl, hb⟩
  have F := Hd (F.out.below hb)
  clear l_s a_s b_s c_s d_s V_s
  clear hb
  obtain ⟨-, V_t, -⟩ := F.out.h
  obtain ⟨l_t, a_t, b_t, c_t, d_t, -, -, -, -⟩ := V_t.quad.facts
  go_wp2_with fail
  refine (HC4.out wx2 _ V_t.at_.raw).mono ?_
  rintro e wx3 ⟨rfl, hb⟩
  have F := Hd (F.out.below hb)
  clear l_t a_t b_t c_t d_t V_t
  clear hb
  obtain ⟨V_s, -⟩ := F.out.h
  obtain ⟨l_s, a_s, b_s, c_s, d_s, -, -, -, -⟩ := V_s.quad.facts
  go_wp2_with fail
  refine (HC5.out wx3 _ V_s.at_.raw).mono ?_
  rintro e wx4 ⟨rfl, hb⟩
  have F := Hd (F.out.below hb)
  clear l_s a_s b_s c_s d_s V_s
  clear hb
  obtain ⟨-, V_t, -⟩ := F.out.h
  obtain ⟨l_t, a_t, b_t, c_t, d_t, -, -, -, -⟩ := V_t.quad.facts
  go_wp2_with fail
  refine (HC6.out wx4 _ V_t.at_.raw).mono ?_
  rintro e wx5 ⟨rfl, hb⟩
  have F := Hd (F.out.below hb)
  clear l_t a_t b_t c_t d_t V_t
  clear hb
  clear HC1 HC2 HC3 HC4 HC5 HC6
  have ha := (Below.refl wx5.heap.size wx5).alloc (Nat.le_refl _) (.cells #[.bool true] 4)
  have F := Hd ((F.out.below ha).add (Cell1.mk (Blk.new wx5 4 #[.bool true])) (fun _ _ => Cell1.below))
  clear ha
  go_upto_region 4 with fail
  obtain ⟨wo, E⟩ : ∃ W, W = wx5.alloc (.cells #[.bool true] 4) := ⟨_, rfl⟩
  obtain ⟨bo, hq⟩ : ∃ q, q = wx5.heap.size := ⟨_, rfl⟩
  rw [← E, ← hq] at F ⊢
  clear E hq
  clear h3 h4 h34
  obtain ⟨-, V_s, -⟩ := F.out.h
  obtain ⟨l_s, a_s, b_s, c_s, d_s, -, -, -, -⟩ := V_s.quad.facts
  go_wp2_with fail
  refine (HC7.out wo _ V_s.at_).mono ?_
  rintro e wx6 ⟨v, rfl, hI, hb⟩
  obtain ⟨A6a, c6a, A6b, c6b, A6c, c6c, A6d, c6d, rfl, -⟩ := hI.form
  have hn := GV.new 28 (hI.at_)
  have ha := (Below.refl wx6.heap.size wx6).alloc (Nat.le_refl _) (.cells #[.bool (decide (x1 < 0)), .slice A6a (natL x1.natAbs).length c6a, .bool (decide (x2 < 0)), .slice A6b (natL x2.natAbs).length c6b, .bool (decide (x3 < 0)), .slice A6c (natL x3.natAbs).length c6c, .bool (decide (x4 < 0)), .slice A6d (natL x4.natAbs).length c6d] 28)
  have F := Hd (((F.out.below hb).below ha).add hn (fun _ _ => GV.below))
  clear l_s a_s b_s c_s d_s V_s
  clear hI hb hn ha
  go_upto_region 5 with fail
  obtain ⟨wy6, E⟩ : ∃ W, W = wx6.alloc (.cells #[.bool (decide (x1 < 0)), .slice A6a (natL x1.natAbs).length c6a, .bool (decide (x2 < 0)), .slice A6b (natL x2.natAbs).length c6b, .bool (decide (x3 < 0)), .slice A6c (natL x3.natAbs).length c6c, .bool (decide (x4 < 0)), .slice A6d (natL x4.natAbs).length c6d] 28) := ⟨_, rfl⟩
  obtain ⟨q6, hq⟩ : ∃ q, q = wx6.heap.size := ⟨_, rfl⟩
  rw [← E, ← hq] at F ⊢
  clear E hq
  obtain ⟨-, -, -, V_t, -⟩ := F.out.h
  obtain ⟨l_t, a_t, b_t, c_t, d_t, -, -, -, -⟩ := V_t.quad.facts
  go_wp2_with fail
  refine (HC8.out wy6 _ V_t.at_).mono ?_
  rintro e wx7 ⟨v, rfl, hI, hb⟩
  obtain ⟨A7a, c7a, A7b, c7b, A7c, c7c, A7d, c7d, rfl, -⟩ := hI.form
  have hn := GV.new 28 (hI.at_)
  have ha := (Below.refl wx7.heap.size wx7).alloc (Nat.le_refl _) (.cells #[.bool (decide (y1 < 0)), .slice A7a (natL y1.natAbs).length c7a, .bool (decide (y2 < 0)), .slice A7b (natL y2.natAbs).length c7b, .bool (decide (y3 < 0)), .slice A7c (natL y3.natAbs).length c7c, .bool (decide (y4 < 0)), .slice A7d (natL y4.natAbs).length c7d] 28)
  have F := Hd (((F.out.below hb).below ha).add hn (fun _ _ => GV.below))
  clear l_t a_t b_t c_t d_t V_t
  clear hI hb hn ha
  go_upto_region 6 with fail
  obtain ⟨wy7, E⟩ : ∃ W, W = wx7.alloc (.cells #[.bool (decide (y1 < 0)), .slice A7a (natL y1.natAbs).length c7a, .bool (decide (y2 < 0)), .slice A7b (natL y2.natAbs).length c7b, .bool (decide (y3 < 0)), .slice A7c (natL y3.natAbs).length c7c, .bool (decide (y4 < 0)), .slice A7d (natL y4.natAbs).length c7d] 28) := ⟨_, rfl⟩
  obtain ⟨q7, hq⟩ : ∃ q, q = wx7.heap.size := ⟨_, rfl⟩
  rw [← E, ← hq] at F ⊢
  clear E hq
  obtain ⟨-, V_x, -⟩ := F.out.h
  obtain ⟨l_x, a_x, b_x, c_x, d_x, e_x, f_x, g_x, h_x⟩ := V_x.oct.facts
  go_wp2_with fail
  refine (HC9.out wy7 _ V_x.at_).mono ?_
  rintro e wx8 ⟨v, rfl, hI, hb⟩
  obtain ⟨A8a, c8a, A8b, c8b, rfl, -⟩ := hI.form
  have hn := FV.new (hI.at_).raws.1 (hI.at_).raws.2
  have ha := (Below.refl wx8.heap.size wx8).alloc (Nat.le_refl _) (.cells #[.bool (decide (i < 0)), .slice A8a (natL i.natAbs).length c8a, .bool (decide (i < 0)), .slice A8b (natL i.natAbs).length c8b] 26)
  have F := Hd (((F.out.below hb).below ha).add hn (fun _ _ => FV.below))
  clear l_x a_x b_x c_x d_x e_x f_x g_x h_x V_x
  clear hI hb hn ha
  go_upto_region 7 with fail
  obtain ⟨wy8, E⟩ : ∃ W, W = wx8.alloc (.cells #[.bool (decide (i < 0)), .slice A8a (natL i.natAbs).length c8a, .bool (decide (i < 0)), .slice A8b (natL i.natAbs).length c8b] 26) := ⟨_, rfl⟩
  obtain ⟨q8, hq⟩ : ∃ q, q = wx8.heap.size := ⟨_, rfl⟩
  rw [← E, ← hq] at F ⊢
  clear E hq
  go_wp2_with fail
  refine (HC10.out wy8).mono ?_
  rintro e wx9 ⟨v, rfl, hI, hb⟩
  obtain ⟨A9a, c9a, A9b, c9b, rfl, -⟩ := hI.form
  have hn := FV.new (hI.at_).raws.1 (hI.at_).raws.2
  have ha := (Below.refl wx9.heap.size wx9).alloc (Nat.le_refl _) (.cells #[.bool (decide (i < 0)), .slice A9a (natL i.natAbs).length c9a, .bool (decide (i < 0)), .slice A9b (natL i.natAbs).length c9b] 26)
  have F := Hd (((F.out.below hb).below ha).add hn (fun _ _ => FV.below))
  clear hI hb hn ha
  go_upto_region 8 with fail
  obtain ⟨wy9, E⟩ : ∃ W, W = wx9.alloc (.cells #[.bool (decide (i < 0)), .slice A9a (natL i.natAbs).length c9a, .bool (decide (i < 0)), .slice A9b (natL i.natAbs).length c9b] 26) := ⟨_, rfl⟩
  obtain ⟨q9, hq⟩ : ∃ q, q = wx9.heap.size := ⟨_, rfl⟩
  rw [← E, ← hq] at F ⊢
  clear E hq
  obtain ⟨-, -, -, -, -, V_s, V_t, -⟩ := F.out.h
  obtain ⟨l_s, a_s, b_s, c_s, d_s, -, -, -, -⟩ := V_s.quad.facts
  obtain ⟨l_t, a_t, b_t, c_t, d_t, -, -, -, -⟩ := V_t.quad.facts
  go_wp2_with fail
  refine (HC11.out wy9 _ _ V_s.at_ V_t.at_).mono ?_
  rintro e wx10 ⟨v, rfl, hI, hb⟩
  obtain ⟨A10a, c10a, A10b, c10b, rfl, -⟩ := hI.form
  have hn := FV.new (hI.at_).raws.1 (hI.at_).raws.2
  have ha := (Below.refl wx10.heap.size wx10).alloc (Nat.le_refl _) (.cells #[.bool (decide (f1 < 0)), .slice A10a (natL f1.natAbs).length c10a, .bool (decide (f2 < 0)), .slice A10b (natL f2.natAbs).length c10b] 26)
  have F := Hd (((F.out.below hb).below ha).add hn (fun _ _ => FV.below))
  clear l_s a_s b_s c_s d_s l_t a_t b_t c_t d_t V_s V_t
  clear hI hb hn ha
  go_upto_region 9 with fail
  obtain ⟨wy10, E⟩ : ∃ W, W = wx10.alloc (.cells #[.bool (decide (f1 < 0)), .slice A10a (natL f1.natAbs).length c10a, .bool (decide (f2 < 0)), .slice A10b (natL f2.natAbs).length c10b] 26) := ⟨_, rfl⟩
  obtain ⟨q10, hq⟩ : ∃ q, q = wx10.heap.size := ⟨_, rfl⟩
  rw [← E, ← hq] at F ⊢
  clear E hq
  obtain ⟨V_pp, V_one, -⟩ := F.out.h
  obtain ⟨l_one, a_one, b_one, c_one, d_one, -, -, -, -⟩ := V_one.quad.facts
  obtain ⟨l_pp, a_pp, b_pp, c_pp, d_pp, -, -, -, -⟩ := V_pp.quad.facts
  go_wp2_with fail
  refine (HC12.out wy10 _ _ V_one.at_ V_pp.at_).mono ?_
  rintro e wx11 ⟨v, rfl, hI, hb⟩
  obtain ⟨A11a, c11a, A11b, c11b, rfl, -⟩ := hI.form
  have hn := FV.new (hI.at_).raws.1 (hI.at_).raws.2
  have ha := (Below.refl wx11.heap.size wx11).alloc (Nat.le_refl _) (.cells #[.bool (decide (e1 < 0)), .slice A11a (natL e1.natAbs).length c11a, .bool (decide (e2 < 0)), .slice A11b (natL e2.natAbs).length c11b] 26)
  have F := Hd (((F.out.below hb).below ha).add hn (fun _ _ => FV.below))
  clear l_one a_one b_one c_one d_one l_pp a_pp b_pp c_pp d_pp V_one V_pp
  clear hI hb hn ha
  go_upto_region 10 with fail
  obtain ⟨wy11, E⟩ : ∃ W, W = wx11.alloc (.cells #[.bool (decide (e1 < 0)), .slice A11a (natL e1.natAbs).length c11a, .bool (decide (e2 < 0)), .slice A11b (natL e2.natAbs).length c11b] 26) := ⟨_, rfl⟩
  obtain ⟨q11, hq⟩ : ∃ q, q = wx11.heap.size := ⟨_, rfl⟩
  rw [← E, ← hq] at F ⊢
  clear E hq
  obtain ⟨-, -, -, -, -, -, -, V_s, V_t, -⟩ := F.out.h
  obtain ⟨l_s, a_s, b_s, c_s, d_s, -, -, -, -⟩ := V_s.quad.facts
  obtain ⟨l_t, a_t, b_t, c_t, d_t, -, -, -, -⟩ := V_t.quad.facts
  go_wp2_with fail
  refine (HC13.out wy11 _ _ V_s.at_ V_t.at_).mono ?_
  rintro e wx12 ⟨v, rfl, hI, hb⟩
  obtain ⟨A12a, c12a, A12b, c12b, rfl, -⟩ := hI.form
  have hn := FV.new (hI.at_).raws.1 (hI.at_).raws.2
  have ha := (Below.refl wx12.heap.size wx12).alloc (Nat.le_refl _) (.cells #[.bool (decide (a1 < 0)), .slice A12a (natL a1.natAbs).length c12a, .bool (decide (a2 < 0)), .slice A12b (natL a2.natAbs).length c12b] 26)
  have F := Hd (((F.out.below hb).below ha).add hn (fun _ _ => FV.below))
  clear l_s a_s b_s c_s d_s l_t a_t b_t c_t d_t V_s V_t
  clear hI hb hn ha
  go_upto_region 11 with fail
  obtain ⟨wy12, E⟩ : ∃ W, W = wx12.alloc (.cells #[.bool (decide (a1 < 0)), .slice A12a (natL a1.natAbs).length c12a, .bool (decide (a2 < 0)), .slice A12b (natL a2.natAbs).length c12b] 26) := ⟨_, rfl⟩
  obtain ⟨q12, hq⟩ : ∃ q, q = wx12.heap.size := ⟨_, rfl⟩
  rw [← E, ← hq] at F ⊢
  clear E hq
  obtain ⟨-, -, -, V_one, V_nn, -⟩ := F.out.h
  obtain ⟨l_nn, a_nn, b_nn, c_nn, d_nn, -, -, -, -⟩ := V_nn.quad.facts
  obtain ⟨l_one, a_one, b_one, c_one, d_one, -, -, -, -⟩ := V_one.quad.facts
  go_wp2_with fail
  refine (sameFrac_true _ _ _ _ wy12 V_nn.at_ V_one.at_).mono ?_
  rintro e wx13 ⟨rfl, hb⟩
  have F := Hd (F.out.below hb)
  clear l_nn a_nn b_nn c_nn d_nn l_one a_one b_one c_one d_one V_nn V_one
  clear hb
  obtain ⟨-, -, -, -, -, V_y, V_x, CK, -⟩ := F.out.h
  obtain ⟨l_x, a_x, b_x, c_x, d_x, e_x, f_x, g_x, h_x⟩ := V_x.oct.facts
  obtain ⟨l_y, a_y, b_y, c_y, d_y, e_y, f_y, g_y, h_y⟩ := V_y.oct.facts
  go_wp2_with fail
  refine (HC14.out wx13 _ _ _ V_x.at_ V_y.at_ CK).mono ?_
  rintro e wx14 ⟨v, rfl, hI, hb⟩
  obtain ⟨A14a, c14a, A14b, c14b, A14c, c14c, A14d, c14d, rfl, -⟩ := hI.form
  have hn := GV.new 28 (hI.at_)
  have ha := (Below.refl wx14.heap.size wx14).alloc (Nat.le_refl _) (.cells #[.bool (decide (z1 < 0)), .slice A14a (natL z1.natAbs).length c14a, .bool (decide (z2 < 0)), .slice A14b (natL z2.natAbs).length c14b, .bool (decide (z3 < 0)), .slice A14c (natL z3.natAbs).length c14c, .bool (decide (z4 < 0)), .slice A14d (natL z4.natAbs).length c14d] 28)
  have F := Hd (((F.out.below hb).below ha).add hn (fun _ _ => GV.below))
  clear l_x a_x b_x c_x d_x e_x f_x g_x h_x l_y a_y b_y c_y d_y e_y f_y g_y h_y CK V_x V_y
  clear hI hb hn ha
  go_upto_region 14 with fail
  obtain ⟨wy14, E⟩ : ∃ W, W = wx14.alloc (.cells #[.bool (decide (z1 < 0)), .slice A14a (natL z1.natAbs).length c14a, .bool (decide (z2 < 0)), .slice A14b (natL z2.natAbs).length c14b, .bool (decide (z3 < 0)), .slice A14c (natL z3.natAbs).length c14c, .bool (decide (z4 < 0)), .slice A14d (natL z4.natAbs).length c14d] 28) := ⟨_, rfl⟩
  obtain ⟨q14, hq⟩ : ∃ q, q = wx14.heap.size := ⟨_, rfl⟩
  rw [← E, ← hq] at F ⊢
  clear E hq
  obtain ⟨-, -, V_den, -⟩ := F.out.h
  obtain ⟨l_den, a_den, b_den, c_den, d_den, -, -, -, -⟩ := V_den.quad.facts
  go_wp2_with fail
  refine (HC15.out wy14 _ V_den.at_).mono ?_
  rintro e wx15 ⟨rfl, hb⟩
  have F := Hd (F.out.below hb)
  clear l_den a_den b_den c_den d_den V_den
  clear hb
  obtain ⟨-, -, -, -, -, -, -, -, -, -, -, HB⟩ := F.out.h
  have F := Hd (F.out.add (HT.out.below2 HB) (fun _ _ h b => powTab.below2 h b))
  clear HB
  go_wp2_with fail
  refine wp_region_free [.val (.bool true) [], .val (.bool true) [], .val (.agg #[.bool (decide (z1 < 0)), .slice A14a (natL z1.natAbs).length c14a, .bool (decide (z2 < 0)), .slice A14b (natL z2.natAbs).length c14b, .bool (decide (z3 < 0)), .slice A14c (natL z3.natAbs).length c14c, .bool (decide (z4 < 0)), .slice A14d (natL z4.natAbs).length c14d]) [], .any false (fun u V => GaussIn V u z1 z2 z3 z4) [], .val (.bool true) [3], .val (.bool true) [], .val (.bool true) [], .val (.bool true) [], .val (.bool true) [], .val (.bool true) []] wx15.heap.size wx15 [] (fun _ _ => False) _ mixedOrders2 (Nat.le_refl _) (Below.refl _ _) (KeptV.refl _ _ _) rfl (by kernel_rfl) (by kernel_rfl) (by kernel_rfl) (by kernel_rfl) (by kernel_rfl) (by kernel_rfl) (by kernel_rfl) (by kernel_rfl) rfl (by simp [oldsF]) ?_ ?_ ?_ ?_
  · simp only [StableF, and_true]
    exact fun u V V' h k => h.kept k (by decide)
  · simp only [OldsF]
  · simp (maxSteps := 4000000) [StepsF, DepF, freeAct, fill, pairs]
    repeat' (first | apply And.intro | (intro (u : Value)) | (intro (u : Nat)))
    all_goals first
    | (intro V hV hK
       obtain ⟨PT, V_bo2, -, -, -, -, -, -, -, CK, -⟩ := (F.out.below hV).h
       obtain ⟨l_bo2, a_bo2, b_bo2, c_bo2, d_bo2, e_bo2, f_bo2, g_bo2, h_bo2⟩ := V_bo2.oct.facts
       have kl := CK.blk.lt
       have k0 := CK.blk.cell 0
       simp at k0
       clear hV hK
       go_simp
       first
       | exact Below.refl _ _
       | ((with_reducible refine (HC16.out V).mono ?_); rintro e w' ⟨v, rfl, hv, hb⟩; exact ⟨hv.in_, hb⟩)
       | ((with_reducible refine (alive_true V PT).mono ?_); rintro e w' ⟨rfl, hb⟩; exact ⟨rfl, hb⟩))
    | (intro V hV hK h1
       obtain ⟨PT, V_bo2, -, -, -, -, -, -, -, CK, -⟩ := (F.out.below hV).h
       obtain ⟨l_bo2, a_bo2, b_bo2, c_bo2, d_bo2, e_bo2, f_bo2, g_bo2, h_bo2⟩ := V_bo2.oct.facts
       have kl := CK.blk.lt
       have k0 := CK.blk.cell 0
       simp at k0
       clear hV hK
       go_simp
       ((with_reducible refine (sameGauss_true V _ _ V_bo2.at_ h1.at_).mono ?_); rintro e w' ⟨rfl, hb⟩; exact ⟨rfl, hb⟩))
  · simp [EndF, FactsF, freeAct, fill, pairs]
    intro u1 V16 hV hK h1 _ _ _
    have F := Hd (F.out.below hV)
    clear hV hK h1
    obtain ⟨-, -, -, -, -, -, -, -, -, -, -, -, HB⟩ := F.out.h
    have HE := Hd HB
    clear HB
    go_wp2_with fail
    go_ret
    exact ⟨rfl, HE.out⟩

theorem gcircle_more {n d p q x1 x2 x3 x4 y1 y2 y3 y4 z1 z2 z3 z4 i f1 f2 e1 e2 a1 a2 sg s2 s3 u1 u2 : Int} {s1 : Nat} (C1 : NumF 30 (decide (n < 0)) (decide (d < 0)) (natL n.natAbs) (natL d.natAbs) s1) (C2 : BeyF s1 false) (C3 : NumF 43 (decide (n < 0)) (decide (d < 0)) (natL n.natAbs) (natL d.natAbs) s2) (h3 : s2 ≤ 200) (C4 : NumF 43 (decide (p < 0)) (decide (q < 0)) (natL p.natAbs) (natL q.natAbs) s3) (h4 : s3 ≤ 200) (C5 : NumF 44 (decide (n < 0)) (decide (d < 0)) (natL n.natAbs) (natL d.natAbs) 0) (C6 : NumF 44 (decide (p < 0)) (decide (q < 0)) (natL p.natAbs) (natL q.natAbs) 0) (C7 : (∀ (V : World) (v : Value), FracAt V v n d → Calls Tryz.prog 34 #[v] V (RetGaussOwn2 V.heap.size V x1 x2 x3 x4 0))) (C8 : (∀ (V : World) (v : Value), FracAt V v p q → Calls Tryz.prog 34 #[v] V (RetGaussOwn2 V.heap.size V y1 y2 y3 y4 0))) (C9 : ∀ (V : World) (v : Value), GaussAt V v x1 x2 x3 x4 → Calls Tryz.prog 33 #[v] V (RetFracOwn2 V.heap.size V i i 0)) (C10 : ∀ V : World, Calls Tryz.prog 45 #[.int .i64 1, .int .i64 1] V (RetFracOwn2 V.heap.size V i i 0)) (C11 : OpR2 41 n d p q f1 f2) (C12 : OpR2 46 i i f1 f2 e1 e2) (C13 : OpR2 47 n d p q a1 a2) (C14 : OpS 27 x1 x2 x3 x4 y1 y2 y3 y4 z1 z2 z3 z4) (C15 : SgnF 42 e1 e2 sg) (hz : (sg == 0) = false) (C16 : OpR2 48 a1 a2 e1 e2 u1 u2) (C17 : (∀ (V : World) (v : Value), FracAt V v u1 u2 → Calls Tryz.prog 34 #[v] V (RetGaussOwn2 V.heap.size V z1 z2 z3 z4 0))) (w : World) (v_s v_t : Value) (g_s : FracAt w v_s n d) (g_t : FracAt w v_t p q) (htab : powTab w) :
    Calls Tryz.prog 8 #[v_s, v_t] w fun e w' => e = .returned (.bool true) ∧ Below w.heap.size w w' := by
  obtain ⟨As1, cs1, As2, cs2, rfl, r1, r2⟩ := g_s.form
  obtain ⟨At1, ct1, At2, ct2, rfl, r3, r4⟩ := g_t.form
  have HC1 := Hd C1
  have HC2 := Hd C2
  have HC3 := Hd C3
  have HC4 := Hd C4
  have HC5 := Hd C5
  have HC6 := Hd C6
  have HC7 := Hd C7
  have HC8 := Hd C8
  have HC9 := Hd C9
  have HC10 := Hd C10
  have HC11 := Hd C11
  have HC12 := Hd C12
  have HC13 := Hd C13
  have HC14 := Hd C14
  have HC15 := Hd C15
  have HC16 := Hd C16
  have HC17 := Hd C17
  have HT := Hd htab
  clear C1 C2 C3 C4 C5 C6 C7 C8 C9 C10 C11 C12 C13 C14 C15 C16 C17 htab
  go_enter Tryz.func8, Tryz.ntmps8
  go_upto_region 1 with fail
  refine boxes2 (P := fun W => Code.wp _ _ _ _ W) fun W p0 p1 b0 => ?_
  have F := Hd (((Kp.base b0).add (FV.mk (Quad.mk p1) (r3.below b0) (r4.below b0)) (fun _ _ => FV.below)).add (FV.mk (Quad.mk p0) (r1.below b0) (r2.below b0)) (fun _ _ => FV.below))
  clear b0 p0 p1 g_s g_t r1 r2 r3 r4
  have h34 := And.intro h3 h4
  obtain ⟨V_s, -⟩ := F.out.h
  obtain ⟨l_s, a_s, b_s, c_s, d_s, -, -, -, -⟩ := V_s.quad.facts
  go_wp2_with fail
  refine (HC1.out W _ V_s.at_.raw).mono ?_
  rintro e wx1 ⟨rfl, hb⟩
  have F := Hd (F.out.below hb)
  clear l_s a_s b_s c_s d_s V_s
  clear hb
  go_wp2_with fail
  refine (HC2.out _ _ (SliceOf.new [s1] _ _ _ rfl)).mono ?_
  rintro e wb ⟨rfl, hb⟩
  have hb := ((Below.refl wx1.heap.size wx1).alloc (Nat.le_refl _) _).trans (hb.mono (by simp))
  have F := Hd (F.out.below hb)
  clear hb
  obtain ⟨V_s, -⟩ := F.out.h
  obtain ⟨l_s, a_s, b_s, c_s, d_s, -, -, -, -⟩ := V_s.quad.facts
  go_wp2_with fail
  refine (HC3.out wb _ V_s.at_.raw).mono ?_
  rintro e wx2 ⟨rfl, hb⟩
  have F := Hd (F.out.below hb)
  clear l_s a_s b_s c_s d_s V_s
  clear hb
  obtain ⟨-, V_t, -⟩ := F.out.h
  obtain ⟨l_t, a_t, b_t, c_t, d_t, -, -, -, -⟩ := V_t.quad.facts
  go_wp2_with fail
  refine (HC4.out wx2 _ V_t.at_.raw).mono ?_
  rintro e wx3 ⟨rfl, hb⟩
  have F := Hd (F.out.below hb)
  clear l_t a_t b_t c_t d_t V_t
  clear hb
  obtain ⟨V_s, -⟩ := F.out.h
  obtain ⟨l_s, a_s, b_s, c_s, d_s, -, -, -, -⟩ := V_s.quad.facts
  go_wp2_with fail
  refine (HC5.out wx3 _ V_s.at_.raw).mono ?_
  rintro e wx4 ⟨rfl, hb⟩
  have F := Hd (F.out.below hb)
  clear l_s a_s b_s c_s d_s V_s
  clear hb
  obtain ⟨-, V_t, -⟩ := F.out.h
  obtain ⟨l_t, a_t, b_t, c_t, d_t, -, -, -, -⟩ := V_t.quad.facts
  go_wp2_with fail
  refine (HC6.out wx4 _ V_t.at_.raw).mono ?_
  rintro e wx5 ⟨rfl, hb⟩
  have F := Hd (F.out.below hb)
  clear l_t a_t b_t c_t d_t V_t
  clear hb
  clear HC1 HC2 HC3 HC4 HC5 HC6
  have ha := (Below.refl wx5.heap.size wx5).alloc (Nat.le_refl _) (.cells #[.bool true] 4)
  have F := Hd ((F.out.below ha).add (Cell1.mk (Blk.new wx5 4 #[.bool true])) (fun _ _ => Cell1.below))
  clear ha
  go_upto_region 4 with fail
  obtain ⟨wo, E⟩ : ∃ W, W = wx5.alloc (.cells #[.bool true] 4) := ⟨_, rfl⟩
  obtain ⟨bo, hq⟩ : ∃ q, q = wx5.heap.size := ⟨_, rfl⟩
  rw [← E, ← hq] at F ⊢
  clear E hq
  clear h3 h4 h34
  obtain ⟨-, V_s, -⟩ := F.out.h
  obtain ⟨l_s, a_s, b_s, c_s, d_s, -, -, -, -⟩ := V_s.quad.facts
  go_wp2_with fail
  refine (HC7.out wo _ V_s.at_).mono ?_
  rintro e wx6 ⟨v, rfl, hI, hb⟩
  obtain ⟨A6a, c6a, A6b, c6b, A6c, c6c, A6d, c6d, rfl, -⟩ := hI.form
  have hn := GV.new 28 (hI.at_)
  have ha := (Below.refl wx6.heap.size wx6).alloc (Nat.le_refl _) (.cells #[.bool (decide (x1 < 0)), .slice A6a (natL x1.natAbs).length c6a, .bool (decide (x2 < 0)), .slice A6b (natL x2.natAbs).length c6b, .bool (decide (x3 < 0)), .slice A6c (natL x3.natAbs).length c6c, .bool (decide (x4 < 0)), .slice A6d (natL x4.natAbs).length c6d] 28)
  have F := Hd (((F.out.below hb).below ha).add hn (fun _ _ => GV.below))
  clear l_s a_s b_s c_s d_s V_s
  clear hI hb hn ha
  go_upto_region 5 with fail
  obtain ⟨wy6, E⟩ : ∃ W, W = wx6.alloc (.cells #[.bool (decide (x1 < 0)), .slice A6a (natL x1.natAbs).length c6a, .bool (decide (x2 < 0)), .slice A6b (natL x2.natAbs).length c6b, .bool (decide (x3 < 0)), .slice A6c (natL x3.natAbs).length c6c, .bool (decide (x4 < 0)), .slice A6d (natL x4.natAbs).length c6d] 28) := ⟨_, rfl⟩
  obtain ⟨q6, hq⟩ : ∃ q, q = wx6.heap.size := ⟨_, rfl⟩
  rw [← E, ← hq] at F ⊢
  clear E hq
  obtain ⟨-, -, -, V_t, -⟩ := F.out.h
  obtain ⟨l_t, a_t, b_t, c_t, d_t, -, -, -, -⟩ := V_t.quad.facts
  go_wp2_with fail
  refine (HC8.out wy6 _ V_t.at_).mono ?_
  rintro e wx7 ⟨v, rfl, hI, hb⟩
  obtain ⟨A7a, c7a, A7b, c7b, A7c, c7c, A7d, c7d, rfl, -⟩ := hI.form
  have hn := GV.new 28 (hI.at_)
  have ha := (Below.refl wx7.heap.size wx7).alloc (Nat.le_refl _) (.cells #[.bool (decide (y1 < 0)), .slice A7a (natL y1.natAbs).length c7a, .bool (decide (y2 < 0)), .slice A7b (natL y2.natAbs).length c7b, .bool (decide (y3 < 0)), .slice A7c (natL y3.natAbs).length c7c, .bool (decide (y4 < 0)), .slice A7d (natL y4.natAbs).length c7d] 28)
  have F := Hd (((F.out.below hb).below ha).add hn (fun _ _ => GV.below))
  clear l_t a_t b_t c_t d_t V_t
  clear hI hb hn ha
  go_upto_region 6 with fail
  obtain ⟨wy7, E⟩ : ∃ W, W = wx7.alloc (.cells #[.bool (decide (y1 < 0)), .slice A7a (natL y1.natAbs).length c7a, .bool (decide (y2 < 0)), .slice A7b (natL y2.natAbs).length c7b, .bool (decide (y3 < 0)), .slice A7c (natL y3.natAbs).length c7c, .bool (decide (y4 < 0)), .slice A7d (natL y4.natAbs).length c7d] 28) := ⟨_, rfl⟩
  obtain ⟨q7, hq⟩ : ∃ q, q = wx7.heap.size := ⟨_, rfl⟩
  rw [← E, ← hq] at F ⊢
  clear E hq
  obtain ⟨-, V_x, -⟩ := F.out.h
  obtain ⟨l_x, a_x, b_x, c_x, d_x, e_x, f_x, g_x, h_x⟩ := V_x.oct.facts
  go_wp2_with fail
  refine (HC9.out wy7 _ V_x.at_).mono ?_
  rintro e wx8 ⟨v, rfl, hI, hb⟩
  obtain ⟨A8a, c8a, A8b, c8b, rfl, -⟩ := hI.form
  have hn := FV.new (hI.at_).raws.1 (hI.at_).raws.2
  have ha := (Below.refl wx8.heap.size wx8).alloc (Nat.le_refl _) (.cells #[.bool (decide (i < 0)), .slice A8a (natL i.natAbs).length c8a, .bool (decide (i < 0)), .slice A8b (natL i.natAbs).length c8b] 26)
  have F := Hd (((F.out.below hb).below ha).add hn (fun _ _ => FV.below))
  clear l_x a_x b_x c_x d_x e_x f_x g_x h_x V_x
  clear hI hb hn ha
  go_upto_region 7 with fail
  obtain ⟨wy8, E⟩ : ∃ W, W = wx8.alloc (.cells #[.bool (decide (i < 0)), .slice A8a (natL i.natAbs).length c8a, .bool (decide (i < 0)), .slice A8b (natL i.natAbs).length c8b] 26) := ⟨_, rfl⟩
  obtain ⟨q8, hq⟩ : ∃ q, q = wx8.heap.size := ⟨_, rfl⟩
  rw [← E, ← hq] at F ⊢
  clear E hq
  go_wp2_with fail
  refine (HC10.out wy8).mono ?_
  rintro e wx9 ⟨v, rfl, hI, hb⟩
  obtain ⟨A9a, c9a, A9b, c9b, rfl, -⟩ := hI.form
  have hn := FV.new (hI.at_).raws.1 (hI.at_).raws.2
  have ha := (Below.refl wx9.heap.size wx9).alloc (Nat.le_refl _) (.cells #[.bool (decide (i < 0)), .slice A9a (natL i.natAbs).length c9a, .bool (decide (i < 0)), .slice A9b (natL i.natAbs).length c9b] 26)
  have F := Hd (((F.out.below hb).below ha).add hn (fun _ _ => FV.below))
  clear hI hb hn ha
  go_upto_region 8 with fail
  obtain ⟨wy9, E⟩ : ∃ W, W = wx9.alloc (.cells #[.bool (decide (i < 0)), .slice A9a (natL i.natAbs).length c9a, .bool (decide (i < 0)), .slice A9b (natL i.natAbs).length c9b] 26) := ⟨_, rfl⟩
  obtain ⟨q9, hq⟩ : ∃ q, q = wx9.heap.size := ⟨_, rfl⟩
  rw [← E, ← hq] at F ⊢
  clear E hq
  obtain ⟨-, -, -, -, -, V_s, V_t, -⟩ := F.out.h
  obtain ⟨l_s, a_s, b_s, c_s, d_s, -, -, -, -⟩ := V_s.quad.facts
  obtain ⟨l_t, a_t, b_t, c_t, d_t, -, -, -, -⟩ := V_t.quad.facts
  go_wp2_with fail
  refine (HC11.out wy9 _ _ V_s.at_ V_t.at_).mono ?_
  rintro e wx10 ⟨v, rfl, hI, hb⟩
  obtain ⟨A10a, c10a, A10b, c10b, rfl, -⟩ := hI.form
  have hn := FV.new (hI.at_).raws.1 (hI.at_).raws.2
  have ha := (Below.refl wx10.heap.size wx10).alloc (Nat.le_refl _) (.cells #[.bool (decide (f1 < 0)), .slice A10a (natL f1.natAbs).length c10a, .bool (decide (f2 < 0)), .slice A10b (natL f2.natAbs).length c10b] 26)
  have F := Hd (((F.out.below hb).below ha).add hn (fun _ _ => FV.below))
  clear l_s a_s b_s c_s d_s l_t a_t b_t c_t d_t V_s V_t
  clear hI hb hn ha
  go_upto_region 9 with fail
  obtain ⟨wy10, E⟩ : ∃ W, W = wx10.alloc (.cells #[.bool (decide (f1 < 0)), .slice A10a (natL f1.natAbs).length c10a, .bool (decide (f2 < 0)), .slice A10b (natL f2.natAbs).length c10b] 26) := ⟨_, rfl⟩
  obtain ⟨q10, hq⟩ : ∃ q, q = wx10.heap.size := ⟨_, rfl⟩
  rw [← E, ← hq] at F ⊢
  clear E hq
  obtain ⟨V_pp, V_one, -⟩ := F.out.h
  obtain ⟨l_one, a_one, b_one, c_one, d_one, -, -, -, -⟩ := V_one.quad.facts
  obtain ⟨l_pp, a_pp, b_pp, c_pp, d_pp, -, -, -, -⟩ := V_pp.quad.facts
  go_wp2_with fail
  refine (HC12.out wy10 _ _ V_one.at_ V_pp.at_).mono ?_
  rintro e wx11 ⟨v, rfl, hI, hb⟩
  obtain ⟨A11a, c11a, A11b, c11b, rfl, -⟩ := hI.form
  have hn := FV.new (hI.at_).raws.1 (hI.at_).raws.2
  have ha := (Below.refl wx11.heap.size wx11).alloc (Nat.le_refl _) (.cells #[.bool (decide (e1 < 0)), .slice A11a (natL e1.natAbs).length c11a, .bool (decide (e2 < 0)), .slice A11b (natL e2.natAbs).length c11b] 26)
  have F := Hd (((F.out.below hb).below ha).add hn (fun _ _ => FV.below))
  clear l_one a_one b_one c_one d_one l_pp a_pp b_pp c_pp d_pp V_one V_pp
  clear hI hb hn ha
  go_upto_region 10 with fail
  obtain ⟨wy11, E⟩ : ∃ W, W = wx11.alloc (.cells #[.bool (decide (e1 < 0)), .slice A11a (natL e1.natAbs).length c11a, .bool (decide (e2 < 0)), .slice A11b (natL e2.natAbs).length c11b] 26) := ⟨_, rfl⟩
  obtain ⟨q11, hq⟩ : ∃ q, q = wx11.heap.size := ⟨_, rfl⟩
  rw [← E, ← hq] at F ⊢
  clear E hq
  obtain ⟨-, -, -, -, -, -, -, V_s, V_t, -⟩ := F.out.h
  obtain ⟨l_s, a_s, b_s, c_s, d_s, -, -, -, -⟩ := V_s.quad.facts
  obtain ⟨l_t, a_t, b_t, c_t, d_t, -, -, -, -⟩ := V_t.quad.facts
  go_wp2_with fail
  refine (HC13.out wy11 _ _ V_s.at_ V_t.at_).mono ?_
  rintro e wx12 ⟨v, rfl, hI, hb⟩
  obtain ⟨A12a, c12a, A12b, c12b, rfl, -⟩ := hI.form
  have hn := FV.new (hI.at_).raws.1 (hI.at_).raws.2
  have ha := (Below.refl wx12.heap.size wx12).alloc (Nat.le_refl _) (.cells #[.bool (decide (a1 < 0)), .slice A12a (natL a1.natAbs).length c12a, .bool (decide (a2 < 0)), .slice A12b (natL a2.natAbs).length c12b] 26)
  have F := Hd (((F.out.below hb).below ha).add hn (fun _ _ => FV.below))
  clear l_s a_s b_s c_s d_s l_t a_t b_t c_t d_t V_s V_t
  clear hI hb hn ha
  go_upto_region 11 with fail
  obtain ⟨wy12, E⟩ : ∃ W, W = wx12.alloc (.cells #[.bool (decide (a1 < 0)), .slice A12a (natL a1.natAbs).length c12a, .bool (decide (a2 < 0)), .slice A12b (natL a2.natAbs).length c12b] 26) := ⟨_, rfl⟩
  obtain ⟨q12, hq⟩ : ∃ q, q = wx12.heap.size := ⟨_, rfl⟩
  rw [← E, ← hq] at F ⊢
  clear E hq
  obtain ⟨-, -, -, V_one, V_nn, -⟩ := F.out.h
  obtain ⟨l_nn, a_nn, b_nn, c_nn, d_nn, -, -, -, -⟩ := V_nn.quad.facts
  obtain ⟨l_one, a_one, b_one, c_one, d_one, -, -, -, -⟩ := V_one.quad.facts
  go_wp2_with fail
  refine (sameFrac_true _ _ _ _ wy12 V_nn.at_ V_one.at_).mono ?_
  rintro e wx13 ⟨rfl, hb⟩
  have F := Hd (F.out.below hb)
  clear l_nn a_nn b_nn c_nn d_nn l_one a_one b_one c_one d_one V_nn V_one
  clear hb
  obtain ⟨-, -, -, -, -, V_y, V_x, CK, -⟩ := F.out.h
  obtain ⟨l_x, a_x, b_x, c_x, d_x, e_x, f_x, g_x, h_x⟩ := V_x.oct.facts
  obtain ⟨l_y, a_y, b_y, c_y, d_y, e_y, f_y, g_y, h_y⟩ := V_y.oct.facts
  go_wp2_with fail
  refine (HC14.out wx13 _ _ _ V_x.at_ V_y.at_ CK).mono ?_
  rintro e wx14 ⟨v, rfl, hI, hb⟩
  obtain ⟨A14a, c14a, A14b, c14b, A14c, c14c, A14d, c14d, rfl, -⟩ := hI.form
  have hn := GV.new 28 (hI.at_)
  have ha := (Below.refl wx14.heap.size wx14).alloc (Nat.le_refl _) (.cells #[.bool (decide (z1 < 0)), .slice A14a (natL z1.natAbs).length c14a, .bool (decide (z2 < 0)), .slice A14b (natL z2.natAbs).length c14b, .bool (decide (z3 < 0)), .slice A14c (natL z3.natAbs).length c14c, .bool (decide (z4 < 0)), .slice A14d (natL z4.natAbs).length c14d] 28)
  have F := Hd (((F.out.below hb).below ha).add hn (fun _ _ => GV.below))
  clear l_x a_x b_x c_x d_x e_x f_x g_x h_x l_y a_y b_y c_y d_y e_y f_y g_y h_y CK V_x V_y
  clear hI hb hn ha
  go_upto_region 14 with fail
  obtain ⟨wy14, E⟩ : ∃ W, W = wx14.alloc (.cells #[.bool (decide (z1 < 0)), .slice A14a (natL z1.natAbs).length c14a, .bool (decide (z2 < 0)), .slice A14b (natL z2.natAbs).length c14b, .bool (decide (z3 < 0)), .slice A14c (natL z3.natAbs).length c14c, .bool (decide (z4 < 0)), .slice A14d (natL z4.natAbs).length c14d] 28) := ⟨_, rfl⟩
  obtain ⟨q14, hq⟩ : ∃ q, q = wx14.heap.size := ⟨_, rfl⟩
  rw [← E, ← hq] at F ⊢
  clear E hq
  obtain ⟨-, -, V_den, -⟩ := F.out.h
  obtain ⟨l_den, a_den, b_den, c_den, d_den, -, -, -, -⟩ := V_den.quad.facts
  go_wp2_with fail
  refine (HC15.out wy14 _ V_den.at_).mono ?_
  rintro e wx15 ⟨rfl, hb⟩
  have F := Hd (F.out.below hb)
  clear l_den a_den b_den c_den d_den V_den
  clear hb
  obtain ⟨-, V_num, V_den, -⟩ := F.out.h
  obtain ⟨l_num, a_num, b_num, c_num, d_num, -, -, -, -⟩ := V_num.quad.facts
  obtain ⟨l_den, a_den, b_den, c_den, d_den, -, -, -, -⟩ := V_den.quad.facts
  go_wp2_with fail
  refine (HC16.out wx15 _ _ V_num.at_ V_den.at_).mono ?_
  rintro e wx16 ⟨v, rfl, hI, hb⟩
  obtain ⟨A16a, c16a, A16b, c16b, rfl, -⟩ := hI.form
  have hn := FV.new (hI.at_).raws.1 (hI.at_).raws.2
  have ha := (Below.refl wx16.heap.size wx16).alloc (Nat.le_refl _) (.cells #[.bool (decide (u1 < 0)), .slice A16a (natL u1.natAbs).length c16a, .bool (decide (u2 < 0)), .slice A16b (natL u2.natAbs).length c16b] 26)
  have F := Hd (((F.out.below hb).below ha).add hn (fun _ _ => FV.below))
  clear l_num a_num b_num c_num d_num l_den a_den b_den c_den d_den V_den V_num
  clear hI hb hn ha
  go_upto_region 17 with fail
  obtain ⟨wy16, E⟩ : ∃ W, W = wx16.alloc (.cells #[.bool (decide (u1 < 0)), .slice A16a (natL u1.natAbs).length c16a, .bool (decide (u2 < 0)), .slice A16b (natL u2.natAbs).length c16b] 26) := ⟨_, rfl⟩
  obtain ⟨q16, hq⟩ : ∃ q, q = wx16.heap.size := ⟨_, rfl⟩
  rw [← E, ← hq] at F ⊢
  clear E hq
  obtain ⟨V_uu, -⟩ := F.out.h
  obtain ⟨l_uu, a_uu, b_uu, c_uu, d_uu, -, -, -, -⟩ := V_uu.quad.facts
  go_wp2_with fail
  refine (HC17.out wy16 _ V_uu.at_).mono ?_
  rintro e wx17 ⟨v, rfl, hI, hb⟩
  obtain ⟨A17a, c17a, A17b, c17b, A17c, c17c, A17d, c17d, rfl, -⟩ := hI.form
  have hn := GV.new 28 (hI.at_)
  have ha := (Below.refl wx17.heap.size wx17).alloc (Nat.le_refl _) (.cells #[.bool (decide (z1 < 0)), .slice A17a (natL z1.natAbs).length c17a, .bool (decide (z2 < 0)), .slice A17b (natL z2.natAbs).length c17b, .bool (decide (z3 < 0)), .slice A17c (natL z3.natAbs).length c17c, .bool (decide (z4 < 0)), .slice A17d (natL z4.natAbs).length c17d] 28)
  have F := Hd (((F.out.below hb).below ha).add hn (fun _ _ => GV.below))
  clear l_uu a_uu b_uu c_uu d_uu V_uu
  clear hI hb hn ha
  go_upto_region 18 with fail
  obtain ⟨wy17, E⟩ : ∃ W, W = wx17.alloc (.cells #[.bool (decide (z1 < 0)), .slice A17a (natL z1.natAbs).length c17a, .bool (decide (z2 < 0)), .slice A17b (natL z2.natAbs).length c17b, .bool (decide (z3 < 0)), .slice A17c (natL z3.natAbs).length c17c, .bool (decide (z4 < 0)), .slice A17d (natL z4.natAbs).length c17d] 28) := ⟨_, rfl⟩
  obtain ⟨q17, hq⟩ : ∃ q, q = wx17.heap.size := ⟨_, rfl⟩
  rw [← E, ← hq] at F ⊢
  clear E hq
  obtain ⟨-, -, -, -, -, -, -, -, -, -, CK, -, -, -⟩ := F.out.h
  have kl := CK.blk.lt
  have k0 := CK.blk.cell 0
  simp at k0
  obtain ⟨V_zz, -, V_bo2, -⟩ := F.out.h
  obtain ⟨l_bo2, a_bo2, b_bo2, c_bo2, d_bo2, e_bo2, f_bo2, g_bo2, h_bo2⟩ := V_bo2.oct.facts
  obtain ⟨l_zz, a_zz, b_zz, c_zz, d_zz, e_zz, f_zz, g_zz, h_zz⟩ := V_zz.oct.facts
  go_wp2_with fail
  refine (sameGauss_true wy17 _ _ V_bo2.at_ V_zz.at_).mono ?_
  rintro e wx18 ⟨rfl, hb⟩
  have F := Hd (F.out.below hb)
  clear l_bo2 a_bo2 b_bo2 c_bo2 d_bo2 e_bo2 f_bo2 g_bo2 h_bo2 l_zz a_zz b_zz c_zz d_zz e_zz f_zz g_zz h_zz V_bo2 V_zz
  clear kl k0 CK
  clear hb
  obtain ⟨-, -, -, -, -, -, -, -, -, -, -, -, -, HB⟩ := F.out.h
  have HE := Hd HB
  clear HB
  go_wp2_with fail
  refine (alive_true wx18 (HT.out.below2 HE.out)).mono ?_
  rintro e vx ⟨rfl, hb⟩
  have HE := Hd (belowTo HE.out hb)
  clear hb
  go_wp2_with fail
  go_ret
  exact ⟨rfl, HE.out⟩
end Go.Proofs.YthlehkjcfhnplaaGreatDoor
