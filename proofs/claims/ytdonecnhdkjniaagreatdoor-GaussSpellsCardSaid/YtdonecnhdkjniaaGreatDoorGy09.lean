/- Several texts in one: Own, Quo, IntFree, RefTimes, RefDivide. -/
import Derived.Test.YtdonecnhdkjniaaGreatDoorGy08
set_option maxRecDepth 100000
set_option maxHeartbeats 8000000
namespace Go.Proofs.YtdonecnhdkjniaaGreatDoor
open Go.RowKit

theorem YD (neg : Bool) (A : Option Addr) (c : Nat) (xs : List Nat) (w : World) (h : Zr w A c xs) :
   Calls Tryz.prog 161 #[.bool neg, .slice A xs.length c] w fun e w' => e = .returned (sv neg A c xs) /\ Below w.heap.size w w' := by
 unfold sv
 by_cases h0 : val xs = 0
 . rw [if_pos h0]; exact YT neg A c xs w h h0
 . rw [if_neg h0]; exact Xb neg A c xs w h h0
theorem Zc.sv {w : World} {base : Nat} {neg : Bool} {A : Option Addr} {c : Nat} {zs : List Nat} (hz : Zj zs) (h : w.ownsRow base 109 1 (.slice A zs.length c) zs.length (Zv zs)) (hc : zs.length <= c) (hm : c <= 9223372036854775807) : Zc w base (sv neg A c zs) (Zt neg zs) := by
 unfold Go.Proofs.YtdonecnhdkjniaaGreatDoor.sv
 by_cases h0 : val zs = 0
 . rw [if_pos h0]
   have : Zt neg zs = 0 := by unfold Zt; rw [h0]; cases neg <;> rfl
   rw [this]; exact Zc.nought _ _
 . rw [if_neg h0]
   exact Zc.signed hz h hc hm rfl h0
def blkOf : Value -> Option Nat
 | .agg #[_, s] => s.ownBlock
 | _ => none
theorem sv_blk {neg : Bool} {a : Addr} {c : Nat} {zs : List Nat} {g : Nat} (h : blkOf (sv neg (some a) c zs) = some g) : a.block = g := by
 unfold sv at h
 split at h
 . cases h
 . exact Option.some.inj h
structure Ja (w : World) (base : Nat) (v1 : Value) (z1 : Int) (v2 : Value) (z2 : Int) : Prop where
 one : Zc w base v1 z1
 two : Zc w base v2 z2
 apart : ∀ g, blkOf v1 = some g -> blkOf v2 ≠ some g
theorem Ja.below {w w' : World} {base : Nat} {v1 v2 : Value} {z1 z2 : Int} (h : Ja w base v1 z1 v2 z2) (hb : Below w.heap.size w w') : Ja w' base v1 z1 v2 z2 := ⟨h.one.below hb, h.two.below hb, h.apart⟩
theorem Ja.base {w : World} {b b' : Nat} {v1 v2 : Value} {z1 z2 : Int} (h : Ja w b v1 z1 v2 z2) (hb : b' <= b) : Ja w b' v1 z1 v2 z2 := ⟨h.one.base hb, h.two.base hb, h.apart⟩
theorem Ja.pair {w : World} {g base : Nat} {a b : Value} {v1 v2 : Value} {z1 z2 : Int} (h : Ja w base v1 z1 v2 z2) (hne : g < base) : Ja ((w.setCell ⟨g, 0, none⟩ a).setCell ⟨g, 1, none⟩ b) base v1 z1 v2 z2 := ⟨h.one.pair hne, h.two.pair hne, h.apart⟩
def RetTwo (base : Nat) (w : World) (z1 z2 : Int) (e : Ending) (w' : World) : Prop := ∃ v1 v2, e = .returned (.tuple #[v1, v2]) /\ Ja w' base v1 z1 v2 z2 /\ Below w.heap.size w w'

theorem exact_own (n1 : Bool) (A : Option Addr) (c : Nat) (xs : List Nat) (hl : xs.length <= 1073741824) (w : World) (h : Zr w A c xs) :
  Calls Tryz.prog 180 #[.bool n1, .slice A xs.length c] w (Z1 w.heap.size w (Zt n1 xs)) := by
 have pr := Zp.new w 24 (.bool false) (.slice none 0 0)
 have b0 := (Below.refl w.heap.size w).alloc (Nat.le_refl _) (.cells #[.bool false, .slice none 0 0] 24)
 have rx := h.alloc (.cells #[.bool false, .slice none 0 0] 24)
 clear h
 go_enter Tryz.func180, Tryz.ntmps180
 obtain ⟨W, E⟩ : ∃ W, W = w.alloc (.cells #[.bool false, .slice none 0 0] 24) := ⟨_, rfl⟩
 have C1 := Hd (XF A c xs hl W (by rw [E]; exact rx))
 go_wp2_with fail
 rw [<- E] at pr b0 ⊢
 have hsz : w.heap.size + 1 = W.heap.size := by rw [E]; simp
 clear E rx
 have PR := Hd pr
 have B0 := Hd b0
 clear pr b0
 refine C1.out.mono ?_
 rintro e w1 ⟨v, rfl, hv, hb1⟩
 obtain ⟨A1, c1, rfl, h2, h3, h4⟩ := hv.form
 have C2 := Hd (YD n1 A1 c1 xs w1 ⟨hv.limbs, h2, h3, ZL.of_own h4⟩)
 have I1 := Hd (Zc.sv (neg := n1) hv.limbs h4 h2 h3)
 have B1 := Hd (Zb B0.out hb1)
 have P1 := Hd (PR.out.below hb1)
 obtain ⟨b9, A9, k9, c9, hsv⟩ := sv_form n1 A1 c1 xs
 rw [hsv] at C2 I1
 clear C1 PR hv h4 hb1 hsv
 go_wp2_with fail
 refine C2.out.mono ?_
 rintro e w2 ⟨rfl, hb2⟩
 have pr := P1.out.below hb2
 obtain ⟨q1, q2, q3, q4, q5⟩ := pr.facts
 have hI := (I1.out.below hb2).pair (g := w.heap.size) (a := .bool b9) (b := .slice A9 k9 c9) (by omega)
 have hB := Yh (Zb B1.out hb2) (Nat.le_refl _) (.bool b9) (.slice A9 k9 c9)
 have hq := pr.store (.bool b9) (.slice A9 k9 c9)
 have HI := Hd hI
 have HB := Hd hB
 have HQ := Hd hq
 clear C2 I1 B1 P1 hb2 pr hI hB hq
 go_wp2_with fail
 obtain ⟨_, k0, k1, _, _⟩ := HQ.out.facts
 exact bodyPost_ret (by simp [results, Tryz.results180, go_sem, k0, k1]) rfl ⟨_, rfl, HI.out.base (by omega), HB.out⟩

theorem exact_Divide_less (n1 n2 : Bool) (A B : Option Addr) (c d : Nat) (xs ys : List Nat) (hcx : Z7 xs) (hcy : Z7 ys) (hlt : val xs < val ys) (hlx : xs.length <= 536870912) (hly : ys.length <= 536870912) (w : World) (h : Zr w A c xs) (g : Zr w B d ys) :
  Calls Tryz.prog 181 #[.agg #[.bool n1, .slice A xs.length c], .agg #[.bool n2, .slice B ys.length d]] w (RetTwo w.heap.size w 0 (Zt n1 xs)) := by
 have px := (((Zp.new w 24 (.bool n1) (.slice A xs.length c)).alloc (.cells #[.bool n2, .slice B ys.length d] 24)).alloc (.cells #[.bool false, .slice none 0 0] 24)).alloc (.cells #[.bool false, .slice none 0 0] 24)
 have py := ((Zp.new (w.alloc (.cells #[.bool n1, .slice A xs.length c] 24)) 24 (.bool n2) (.slice B ys.length d)).alloc (.cells #[.bool false, .slice none 0 0] 24)).alloc (.cells #[.bool false, .slice none 0 0] 24)
 have pq := (Zp.new ((w.alloc (.cells #[.bool n1, .slice A xs.length c] 24)).alloc (.cells #[.bool n2, .slice B ys.length d] 24)) 24 (.bool false) (.slice none 0 0)).alloc (.cells #[.bool false, .slice none 0 0] 24)
 have pr := Zp.new (((w.alloc (.cells #[.bool n1, .slice A xs.length c] 24)).alloc (.cells #[.bool n2, .slice B ys.length d] 24)).alloc (.cells #[.bool false, .slice none 0 0] 24)) 24 (.bool false) (.slice none 0 0)
 have rx := ((((h.alloc (.cells #[.bool n1, .slice A xs.length c] 24)).alloc (.cells #[.bool n2, .slice B ys.length d] 24)).alloc (.cells #[.bool false, .slice none 0 0] 24)).alloc (.cells #[.bool false, .slice none 0 0] 24))
 have ry := ((((g.alloc (.cells #[.bool n1, .slice A xs.length c] 24)).alloc (.cells #[.bool n2, .slice B ys.length d] 24)).alloc (.cells #[.bool false, .slice none 0 0] 24)).alloc (.cells #[.bool false, .slice none 0 0] 24))
 have b0 := ((((Below.refl w.heap.size w).alloc (Nat.le_refl _) (.cells #[.bool n1, .slice A xs.length c] 24)).alloc (by simp) (.cells #[.bool n2, .slice B ys.length d] 24)).alloc (by simp; omega) (.cells #[.bool false, .slice none 0 0] 24)).alloc (by simp; omega) (.cells #[.bool false, .slice none 0 0] 24)
 simp only [World.size_alloc] at py pq pr
 clear h g
 go_enter Tryz.func181, Tryz.ntmps181
 go_wp2_with fail
 obtain ⟨W, E⟩ : ∃ W, W = ((((w.alloc (.cells #[.bool n1, .slice A xs.length c] 24)).alloc (.cells #[.bool n2, .slice B ys.length d] 24)).alloc (.cells #[.bool false, .slice none 0 0] 24)).alloc (.cells #[.bool false, .slice none 0 0] 24)) := ⟨_, rfl⟩
 rw [<- E] at px py pq pr b0 rx ry ⊢
 have hsz : W.heap.size = w.heap.size + 4 := by rw [E]; simp
 clear E
 have PX := Hd px
 have PY := Hd py
 have PQ := Hd pq
 have PR := Hd pr
 have B0 := Hd b0
 have RX := Hd rx
 have RY := Hd ry
 obtain ⟨l1, x0, x1, -, -⟩ := px.facts
 obtain ⟨l2, y0, y1, -, -⟩ := py.facts
 clear px py pq pr rx ry b0
 refine (YC A B c d xs ys hcx hcy (by omega) (by omega) W RX.out RY.out).mono ?_
 rintro e wz ⟨kz, rfl, hk, hbz⟩
 have hk2 := hk.2 hlt
 have hdk : decide (kz < 0) = true := by simp; omega
 obtain ⟨-, xz0, xz1, -, -⟩ := (PX.out.below hbz).facts
 obtain ⟨-, yz0, yz1, -, -⟩ := (PY.out.below hbz).facts
 have C1 := Hd (exact_own n1 A c xs (by omega) wz (RX.out.below hbz))
 have B1 := Hd (Zb B0.out hbz)
 have PQ1 := Hd (PQ.out.below hbz)
 have PR1 := Hd (PR.out.below hbz)
 have hz1 := hbz.size
 clear hk hk2 hbz l1 x0 x1 l2 y0 y1 PX PY RX RY B0 PQ PR
 go_wp2_with fail
 refine C1.out.mono ?_
 rintro e w1 ⟨v, rfl, hv, hb⟩
 obtain ⟨A1, c1, hform, -⟩ := hv.form
 rw [hform] at hv ⊢
 have pq := PQ1.out.below hb
 have pr := PR1.out.below hb
 obtain ⟨a1, a2, a3, a4, a5⟩ := pq.facts
 obtain ⟨r1, r2, r3, r4, r5⟩ := pr.facts
 have hlr := PR1.out.blk.lt
 have HI := Hd ((Ja.mk (Zc.nought w1 wz.heap.size) hv (fun g h => by cases h)).pair (g := w.heap.size + 1 + 1) (a := .bool false) (b := .slice none 0 0) (by omega))
 have HI2 := Hd (HI.out.pair (g := w.heap.size + 1 + 1 + 1) (a := .bool (decide (Zt n1 xs < 0))) (b := .slice A1 (Za (Zt n1 xs).natAbs).length c1) (by omega))
 have HB := Hd (Yh (Yh (Zb B1.out hb) (show w.heap.size <= w.heap.size + 1 + 1 by omega) (.bool false) (.slice none 0 0)) (show w.heap.size <= w.heap.size + 1 + 1 + 1 by omega) (.bool (decide (Zt n1 xs < 0))) (.slice A1 (Za (Zt n1 xs).natAbs).length c1))
 have HQ := Hd ((pq.store (.bool false) (.slice none 0 0)).far (show w.heap.size + 1 + 1 ≠ w.heap.size + 1 + 1 + 1 by omega) (.bool (decide (Zt n1 xs < 0))) (.slice A1 (Za (Zt n1 xs).natAbs).length c1))
 have HR := Hd ((pr.far (show w.heap.size + 1 + 1 + 1 ≠ w.heap.size + 1 + 1 by omega) (.bool false) (.slice none 0 0)).store (.bool (decide (Zt n1 xs < 0))) (.slice A1 (Za (Zt n1 xs).natAbs).length c1))
 clear hb hv B1 PQ1 PR1 C1 pq pr xz0 xz1 yz0 yz1 HI
 go_wp2_with fail
 obtain ⟨_, k0, k1, _, _⟩ := HQ.out.facts
 obtain ⟨_, k2, k3, _, _⟩ := HR.out.facts
 exact bodyPost_ret (by simp [results, Tryz.results181, go_sem, k0, k1, k2, k3]) rfl ⟨_, _, rfl, HI2.out.base (by omega), HB.out⟩

structure Xi (w V : World) (base gq gr : Nat) (v1 : Value) (z1 : Int) (v2 : Value) (z2 : Int) (b1 : Bool) (s1 : Value) (b2 : Bool) (s2 : Value) : Prop where
 ints : Ja V base v1 z1 v2 z2
 pq : Zp V gq 24 (.bool b1) s1
 pr : Zp V gr 24 (.bool b2) s2
 low : Below w.heap.size w V
def AggBool (u : Value) : Prop := ∃ (b : Bool) (A : Option Addr) (k c : Nat), u = .agg #[.bool b, .slice A k c]
theorem Xi.one {w V : World} {base gq gr : Nat} {v1 v2 : Value} {z1 z2 : Int} {b1 b2 : Bool} {s1 s2 : Value} (h : Xi w V base gq gr v1 z1 v2 z2 b1 s1 b2 s2) (hgq : gq < base) (hne : gr ≠ gq) (hw : w.heap.size <= gq) (b : Bool) (s : Value) : Xi w ((V.setCell ⟨gq, 0, none⟩ (.bool b)).setCell ⟨gq, 1, none⟩ s) base gq gr v1 z1 v2 z2 b s b2 s2 :=
 ⟨h.ints.pair hgq, h.pq.store _ _, h.pr.far hne _ _, Yh h.low hw _ _⟩
structure Stored2 (w V : World) (base gq gr : Nat) (v1 : Value) (z1 : Int) (v2 : Value) (z2 : Int) (b1 : Bool) (s1 : Value) : Prop where
 ex : ∃ (b2 : Bool) (s2 : Value), v2 = .agg #[.bool b2, s2] /\ Xi w V base gq gr v1 z1 v2 z2 b1 s1 b2 s2
theorem Xi.two {w V : World} {base gq gr : Nat} {v1 v2 : Value} {z1 z2 : Int} {b1 b2 : Bool} {s1 s2 : Value} (h : Xi w V base gq gr v1 z1 v2 z2 b1 s1 b2 s2) (hgr : gr < base) (hne : gq ≠ gr) (hw : w.heap.size <= gr) (b : Bool) (s : Value) : Xi w ((V.setCell ⟨gr, 0, none⟩ (.bool b)).setCell ⟨gr, 1, none⟩ s) base gq gr v1 z1 v2 z2 b1 s1 b s :=
 ⟨h.ints.pair hgr, h.pq.far hne _ _, h.pr.store _ _, Yh h.low hw _ _⟩

theorem exact_Divide_many (n1 n2 : Bool) (A B : Option Addr) (c d : Nat) (xs ys : List Nat) (hcx : Z7 xs) (hcy : Z7 ys) (hle : val ys <= val xs) (h2 : 2 <= ys.length) (hlx : xs.length <= 536870912) (hly : ys.length <= 536870912) (w : World) (h : Zr w A c xs) (g : Zr w B d ys) :
   Calls Tryz.prog 181 #[.agg #[.bool n1, .slice A xs.length c], .agg #[.bool n2, .slice B ys.length d]] w (RetTwo w.heap.size w (Zt (n1 != n2) (Za (val xs / val ys))) (Zt n1 (Za (val xs % val ys)))) := by
 have px := (((Zp.new w 24 (.bool n1) (.slice A xs.length c)).alloc (.cells #[.bool n2, .slice B ys.length d] 24)).alloc (.cells #[.bool false, .slice none 0 0] 24)).alloc (.cells #[.bool false, .slice none 0 0] 24)
 have py := ((Zp.new (w.alloc (.cells #[.bool n1, .slice A xs.length c] 24)) 24 (.bool n2) (.slice B ys.length d)).alloc (.cells #[.bool false, .slice none 0 0] 24)).alloc (.cells #[.bool false, .slice none 0 0] 24)
 have pq := (Zp.new ((w.alloc (.cells #[.bool n1, .slice A xs.length c] 24)).alloc (.cells #[.bool n2, .slice B ys.length d] 24)) 24 (.bool false) (.slice none 0 0)).alloc (.cells #[.bool false, .slice none 0 0] 24)
 have pr := Zp.new (((w.alloc (.cells #[.bool n1, .slice A xs.length c] 24)).alloc (.cells #[.bool n2, .slice B ys.length d] 24)).alloc (.cells #[.bool false, .slice none 0 0] 24)) 24 (.bool false) (.slice none 0 0)
 have rx := ((((h.alloc (.cells #[.bool n1, .slice A xs.length c] 24)).alloc (.cells #[.bool n2, .slice B ys.length d] 24)).alloc (.cells #[.bool false, .slice none 0 0] 24)).alloc (.cells #[.bool false, .slice none 0 0] 24))
 have ry := ((((g.alloc (.cells #[.bool n1, .slice A xs.length c] 24)).alloc (.cells #[.bool n2, .slice B ys.length d] 24)).alloc (.cells #[.bool false, .slice none 0 0] 24)).alloc (.cells #[.bool false, .slice none 0 0] 24))
 have b0 := ((((Below.refl w.heap.size w).alloc (Nat.le_refl _) (.cells #[.bool n1, .slice A xs.length c] 24)).alloc (by simp) (.cells #[.bool n2, .slice B ys.length d] 24)).alloc (by simp; omega) (.cells #[.bool false, .slice none 0 0] 24)).alloc (by simp; omega) (.cells #[.bool false, .slice none 0 0] 24)
 simp only [World.size_alloc] at py pq pr
 clear h g
 go_enter Tryz.func181, Tryz.ntmps181
 go_wp2_with fail
 obtain ⟨W, E⟩ : ∃ W, W = ((((w.alloc (.cells #[.bool n1, .slice A xs.length c] 24)).alloc (.cells #[.bool n2, .slice B ys.length d] 24)).alloc (.cells #[.bool false, .slice none 0 0] 24)).alloc (.cells #[.bool false, .slice none 0 0] 24)) := ⟨_, rfl⟩
 rw [<- E] at px py pq pr b0 rx ry ⊢
 have hsz : W.heap.size = w.heap.size + 4 := by rw [E]; simp
 clear E
 have PX := Hd px
 have PY := Hd py
 have PQ := Hd pq
 have PR := Hd pr
 have B0 := Hd b0
 have RX := Hd rx
 have RY := Hd ry
 obtain ⟨l1, x0, x1, -, -⟩ := px.facts
 obtain ⟨l2, y0, y1, -, -⟩ := py.facts
 clear px py pq pr rx ry b0
 refine (YC A B c d xs ys hcx hcy (by omega) (by omega) W RX.out RY.out).mono ?_
 rintro e wz ⟨kz, rfl, hk, hbz⟩
 have hk2 := hk.1 hle
 have hdk : decide (kz < 0) = false := by simp; omega
 obtain ⟨-, xz0, xz1, -, -⟩ := (PX.out.below hbz).facts
 obtain ⟨-, yz0, yz1, -, -⟩ := (PY.out.below hbz).facts
 have B1 := Hd (Zb B0.out hbz)
 have PX1 := Hd (PX.out.below hbz)
 have PY1 := Hd (PY.out.below hbz)
 have PQ1 := Hd (PQ.out.below hbz)
 have PR1 := Hd (PR.out.below hbz)
 have RX1 := Hd (RX.out.below hbz)
 have RY1 := Hd (RY.out.below hbz)
 have hz1 := hbz.size
 obtain ⟨m, k, r, hm1, hm2, hm3, hm4⟩ : ∃ m k r, k = m + 1 /\ xs.length = k + r /\ 1 <= r /\ ys.length = k + 1 := by
   have := len_of_val RY.out.limbs RX.out.limbs hcy hle
   exact ⟨ys.length - 2, ys.length - 1, xs.length - (ys.length - 1), by omega, by omega, by omega, by omega⟩
 have h0 : Ji ys k ≠ 0 := by
   rw [Yi (by omega)]
   exact hcy _ (X5 hm4)
 have hly1 : decide (ys.length = 1) = false := by simp; omega
 have hly2 : ((ys.length : Int) == 1) = false := by simp; omega
 have C1 := exact_divide A B c d xs ys m k r hm1 hm2 hm3 hm4 h0 hlx wz RX1.out RY1.out
 rw [<- hm2, <- hm4] at C1
 have C2 := Hd C1
 clear C1 hm1 hm2 hm3 hm4 h0 hk hk2 hbz l1 x0 x1 l2 y0 y1 PX PY RX RY B0 PQ PR
 go_wp2_with fail
 refine C2.out.mono ?_
 rintro e V ⟨gl, gq, cl, zl, zq, rfl, hne, hgl, hgq, hrq, hfl, hzq, hzl, hvq, hvl, hlq, hll, hcl, hb⟩
 have hfq := hrq.front
 have PX2 := Hd (PX1.out.below hb)
 have PY2 := Hd (PY1.out.below hb)
 have ST := Hd (Xi.mk (b1 := false) (s1 := .slice none 0 0) (b2 := false) (s2 := .slice none 0 0) (Ja.mk
     (Zc.sv (neg := n1 != n2) hzq (by have := hfq.own hgq (Nat.le_refl _) (by omega); rwa [List.take_length] at this) (Nat.le_refl _) (by omega))
     (Zc.sv (neg := n1) hzl (by have := hfl.own hgl (Nat.le_refl _) hcl; rwa [List.take_length] at this) hfl.fits hcl)
     (fun g h1 h2 => hne ((sv_blk h2).trans (sv_blk h1).symm))) (PQ1.out.below hb) (PR1.out.below hb) (Zb B1.out hb))
 have e1 : Zt (n1 != n2) zq = Zt (n1 != n2) (Za (val xs / val ys)) := by unfold Zt; rw [Z3, hvq]
 have e2 : Zt n1 zl = Zt n1 (Za (val xs % val ys)) := by unfold Zt; rw [Z3, hvl]
 rw [e1, e2] at ST
 have C3 := Hd (fun (V' : World) (hV : Below V.heap.size V V') => YD (n1 != n2) (some ⟨gq, 0, none⟩) zq.length zq V' ((hfq.below hV).raw (by omega) hzq))
 have C4 := Hd (fun (V' : World) (hV : Below V.heap.size V V') => YD n1 (some ⟨gl, 0, none⟩) cl zl V' ((hfl.below hV).raw hcl hzl))
 obtain ⟨b1, A1, k1, c1, hs1⟩ := sv_form (n1 != n2) (some ⟨gq, 0, none⟩) zq.length zq
 obtain ⟨b2, A2, k2, c2, hs2⟩ := sv_form n1 (some ⟨gl, 0, none⟩) cl zl
 rw [hs1] at C3 ST
 rw [hs2] at C4 ST
 clear e1 e2 hs1 hs2 hfq hfl hrq hb hcl hll hlq hvl hvq hzl hzq hgl hgq hne PX1 PY1 PQ1 PR1 B1 C2 RX1 RY1 xz0 xz1 yz0 yz1 hdk hly1 hly2
 have HW := Hd (Below.refl V.heap.size V)
 have hg1 : w.heap.size + 1 + 1 < wz.heap.size := by omega
 have hg2 : w.heap.size + 1 + 1 + 1 < wz.heap.size := by omega
 go_wp2_with fail
 refine YA [.val (.pointer (some ⟨w.heap.size, 0, none⟩)), .val (.bool n1), .val (.pointer (some ⟨w.heap.size + 1, 0, none⟩)), .val (.bool n2), .val (.bool (n1 != n2)), .val (.slice (some ⟨gq, 0, none⟩) zq.length zq.length), .val (.agg #[.bool b1, .slice A1 k1 c1]), .val (.pointer (some ⟨w.heap.size, 0, none⟩)), .val (.bool n1), .val (.slice (some ⟨gl, 0, none⟩) zl.length cl), .val (.agg #[.bool b2, .slice A2 k2 c2]), .step, .step] 0 2 V
   (fun us V' => True)
   (fun us V' => match us with
     | [_] => Xi w V' wz.heap.size (w.heap.size + 1 + 1) (w.heap.size + 1 + 1 + 1) (.agg #[.bool b1, .slice A1 k1 c1]) (Zt (n1 != n2) (Za (val xs / val ys))) (.agg #[.bool b2, .slice A2 k2 c2]) (Zt n1 (Za (val xs % val ys))) b1 (.slice A1 k1 c1) false (.slice none 0 0)
     | _ => Xi w V' wz.heap.size (w.heap.size + 1 + 1) (w.heap.size + 1 + 1 + 1) (.agg #[.bool b1, .slice A1 k1 c1]) (Zt (n1 != n2) (Za (val xs / val ys))) (.agg #[.bool b2, .slice A2 k2 c2]) (Zt n1 (Za (val xs % val ys))) b1 (.slice A1 k1 c1) b2 (.slice A2 k2 c2))
   _ Zg ?_ ?_ ?_ ?_ ?_ ?_ ?_ ?_ ?_ rfl ?_ HW.out trivial ?_ ?_ ?_
 iterate 9 kernel_rfl
 . intro us V1 V2 _ _
   trivial
 . simp [Xc, ZI, ZA, Zl, Z8]
   repeat' apply And.intro
   all_goals
     intro V' hV
     obtain ⟨-, e0, e1, -, -⟩ := (PX2.out.below hV).facts
     obtain ⟨-, f0, f1, -, -⟩ := (PY2.out.below hV).facts
     have HV := Hd hV
     clear hV
     go_simp
     first
     | exact Below.refl _ _
     | exact ⟨by cases n1 <;> cases n2 <;> rfl, Below.refl _ _⟩
     | (with_reducible refine (C3.out V' HV.out).mono ?_; rintro e w' ⟨rfl, hb⟩; exact ⟨rfl, hb⟩)
     | (with_reducible refine (C4.out V' HV.out).mono ?_; rintro e w' ⟨rfl, hb⟩; exact ⟨rfl, hb⟩)
 . simp [YH, ZI, ZA, Zl, Z8]
   refine ⟨fun V' hV => ?_, fun V' hst => ?_⟩
   . have st : Xi w V' wz.heap.size (w.heap.size + 1 + 1) (w.heap.size + 1 + 1 + 1) (.agg #[.bool b1, .slice A1 k1 c1]) (Zt (n1 != n2) (Za (val xs / val ys))) (.agg #[.bool b2, .slice A2 k2 c2]) (Zt n1 (Za (val xs % val ys))) false (.slice none 0 0) false (.slice none 0 0) := ⟨ST.out.ints.below hV, ST.out.pq.below hV, ST.out.pr.below hV, Zb ST.out.low hV⟩
     obtain ⟨q1, q2, q3, q4, q5⟩ := st.pq.facts
     have S := Hd (st.one hg1 (by omega) (by omega) b1 (.slice A1 k1 c1))
     clear st
     go_simp
     exact S.out
   . obtain ⟨q1, q2, q3, q4, q5⟩ := hst.pr.facts
     have S := Hd (hst.two hg2 (by omega) (by omega) b2 (.slice A2 k2 c2))
     clear hst
     go_simp
     exact S.out
 . intro us V' hus hF
   obtain ⟨u0, u1, rfl⟩ : ∃ u0 u1, us = [u0, u1] := by
     match us, hus with
     | [u0, u1], _ => exact ⟨u0, u1, rfl⟩
   simp only [show ¬ (2 <= 0) by decide, if_false] at hF
   simp [ZI, ZA, Zl, Z8]
   obtain ⟨_, k0, k1, _, _⟩ := hF.pq.facts
   obtain ⟨_, k2, k3, _, _⟩ := hF.pr.facts
   have HF := Hd hF
   clear hF PX2 PY2 ST
   go_wp2_with fail
   exact bodyPost_ret (by simp [results, Tryz.results181, go_sem, k0, k1, k2, k3]) rfl ⟨_, _, rfl, HF.out.ints.base (by omega), HF.out.low⟩

theorem exact_Divide_one (n1 n2 : Bool) (A B : Option Addr) (c d : Nat) (xs ys : List Nat) (hcx : Z7 xs) (hcy : Z7 ys) (hle : val ys <= val xs) (hl1 : ys.length = 1) (hlx : xs.length <= 536870912) (hly : ys.length <= 536870912) (w : World) (h : Zr w A c xs) (g : Zr w B d ys) :
   Calls Tryz.prog 181 #[.agg #[.bool n1, .slice A xs.length c], .agg #[.bool n2, .slice B ys.length d]] w (RetTwo w.heap.size w (Zt (n1 != n2) (Za (val xs / val ys))) (Zt n1 (Za (val xs % val ys)))) := by
 have HL1 := Hd hl1
 clear hl1
 have px := (((Zp.new w 24 (.bool n1) (.slice A xs.length c)).alloc (.cells #[.bool n2, .slice B ys.length d] 24)).alloc (.cells #[.bool false, .slice none 0 0] 24)).alloc (.cells #[.bool false, .slice none 0 0] 24)
 have py := ((Zp.new (w.alloc (.cells #[.bool n1, .slice A xs.length c] 24)) 24 (.bool n2) (.slice B ys.length d)).alloc (.cells #[.bool false, .slice none 0 0] 24)).alloc (.cells #[.bool false, .slice none 0 0] 24)
 have pq := (Zp.new ((w.alloc (.cells #[.bool n1, .slice A xs.length c] 24)).alloc (.cells #[.bool n2, .slice B ys.length d] 24)) 24 (.bool false) (.slice none 0 0)).alloc (.cells #[.bool false, .slice none 0 0] 24)
 have pr := Zp.new (((w.alloc (.cells #[.bool n1, .slice A xs.length c] 24)).alloc (.cells #[.bool n2, .slice B ys.length d] 24)).alloc (.cells #[.bool false, .slice none 0 0] 24)) 24 (.bool false) (.slice none 0 0)
 have rx := ((((h.alloc (.cells #[.bool n1, .slice A xs.length c] 24)).alloc (.cells #[.bool n2, .slice B ys.length d] 24)).alloc (.cells #[.bool false, .slice none 0 0] 24)).alloc (.cells #[.bool false, .slice none 0 0] 24))
 have ry := ((((g.alloc (.cells #[.bool n1, .slice A xs.length c] 24)).alloc (.cells #[.bool n2, .slice B ys.length d] 24)).alloc (.cells #[.bool false, .slice none 0 0] 24)).alloc (.cells #[.bool false, .slice none 0 0] 24))
 have b0 := ((((Below.refl w.heap.size w).alloc (Nat.le_refl _) (.cells #[.bool n1, .slice A xs.length c] 24)).alloc (by simp) (.cells #[.bool n2, .slice B ys.length d] 24)).alloc (by simp; omega) (.cells #[.bool false, .slice none 0 0] 24)).alloc (by simp; omega) (.cells #[.bool false, .slice none 0 0] 24)
 simp only [World.size_alloc] at py pq pr
 clear h g
 go_enter Tryz.func181, Tryz.ntmps181
 go_wp2_with fail
 obtain ⟨W, E⟩ : ∃ W, W = ((((w.alloc (.cells #[.bool n1, .slice A xs.length c] 24)).alloc (.cells #[.bool n2, .slice B ys.length d] 24)).alloc (.cells #[.bool false, .slice none 0 0] 24)).alloc (.cells #[.bool false, .slice none 0 0] 24)) := ⟨_, rfl⟩
 rw [<- E] at px py pq pr b0 rx ry ⊢
 have hsz : W.heap.size = w.heap.size + 4 := by rw [E]; simp
 clear E
 have PX := Hd px
 have PY := Hd py
 have PQ := Hd pq
 have PR := Hd pr
 have B0 := Hd b0
 have RX := Hd rx
 have RY := Hd ry
 obtain ⟨l1, x0, x1, -, -⟩ := px.facts
 obtain ⟨l2, y0, y1, -, -⟩ := py.facts
 clear px py pq pr rx ry b0
 refine (YC A B c d xs ys hcx hcy (by omega) (by omega) W RX.out RY.out).mono ?_
 rintro e wz ⟨kz, rfl, hk, hbz⟩
 have hk2 := hk.1 hle
 have hdk : decide (kz < 0) = false := by simp; omega
 obtain ⟨-, xz0, xz1, -, -⟩ := (PX.out.below hbz).facts
 obtain ⟨-, yz0, yz1, -, -⟩ := (PY.out.below hbz).facts
 have B1 := Hd (Zb B0.out hbz)
 have PX1 := Hd (PX.out.below hbz)
 have PY1 := Hd (PY.out.below hbz)
 have PQ1 := Hd (PQ.out.below hbz)
 have PR1 := Hd (PR.out.below hbz)
 have RX1 := Hd (RX.out.below hbz)
 have RY1 := Hd (RY.out.below hbz)
 have hz1 := hbz.size
 have hl1 := HL1.out
 have h0 : Ji ys 0 ≠ 0 := by
   rw [Yi (by omega)]
   exact hcy _ (X5 hl1)
 have hyv : val ys = Ji ys 0 := by
   match ys, hl1 with
   | [y], _ => simp [val, Ji]
 have hxne : xs ≠ [] := by
   rintro rfl
   rw [hyv] at hle
   simp [val] at hle
   exact h0 hle
 obtain ⟨ad, rfl, hbl, hcy0⟩ := RY1.out.reads.get (k := 0) (by omega)
 have hcy1 : wz.cell? ad = some (.int .u32 ((Ji ys 0 : Nat) : Int)) := by
   rw [Yi (by omega)]
   simpa [Addr.add] using hcy0
 have hy2 := XX RY1.out.limbs 0
 have C1 := Hd (XF A c xs (by omega) wz RX1.out)
 have hbn : ((1 : Int) == 1) = true := rfl
 have HYV := Hd hyv
 rw [hl1]
 generalize Ji ys 0 = y at h0 hcy1 hy2 HYV
 clear hk hk2 hbz l1 x0 x1 l2 y0 y1 PX PY RX RY B0 PQ PR hcy0 hyv hbn
 go_wp2_with fail
 refine C1.out.mono ?_
 rintro e w1 ⟨v, rfl, hv, hb1⟩
 obtain ⟨gl, cl, rfl, hgl, hcl, hfr⟩ := hv.front hxne
 have hcy2 : w1.cell? ad = some (.int .u32 (y : Int)) := (hb1.cell hbl).trans hcy1
 obtain ⟨-, yw0, yw1, -, -⟩ := (PY1.out.below hb1).facts
 have C2 := Hd (exact_short gl cl cl y xs (by omega) hy2 hv.limbs (by omega) w1 hfr)
 have hadl : ad.block < w1.heap.size := Nat.lt_of_lt_of_le hbl hb1.size
 clear hv hcy1 yz0 yz1 xz0 xz1 C1 hfr
 go_wp2_with fail
 refine C2.out.mono ?_
 rintro e V ⟨rfl, zq, hlq, hzq, hvq, hfq, hgr⟩
 have hb : Below wz.heap.size wz V := hb1.grown hgr hb1.size (fun k hk => by injection hk with hk; rw [<- hk]; exact hgl)
 have PX2 := Hd (PX1.out.below hb)
 have PY2 := Hd (PY1.out.below hb)
 have PQ2 := Hd (PQ1.out.below hb)
 have PR2 := Hd (PR1.out.below hb)
 have B2 := Hd (Zb B1.out hb)
 have hgV := hfq.lt
 have IQ := Hd (Zc.sv (neg := n1 != n2) hzq (by have := hfq.own hgl (Nat.le_refl _) hcl; rwa [List.take_length] at this) hfq.fits hcl)
 have e1 : Zt (n1 != n2) zq = Zt (n1 != n2) (Za (val xs / val ys)) := by unfold Zt; rw [Z3, hvq, HYV.out]
 rw [e1] at IQ
 have HBQ := Hd (fun g h => sv_blk (neg := n1 != n2) (a := ⟨gl, 0, none⟩) (c := cl) (zs := zq) (g := g) h)
 have C3 := Hd (fun (V' : World) (hV : Below V.heap.size V V') => YD (n1 != n2) (some ⟨gl, 0, none⟩) cl zq V' ((hfq.below hV).raw hcl hzq))
 obtain ⟨b1, A1, k1, c1, hs1⟩ := sv_form (n1 != n2) (some ⟨gl, 0, none⟩) cl zq
 rw [hs1] at C3 IQ HBQ
 rw [<- hlq]
 have hrl : val xs % y < y := Nat.mod_lt _ (by omega)
 have hrest : val [val xs % y] = val xs % val ys := by rw [HYV.out]; simp [val]
 have HREST := Hd hrest
 generalize val xs % y = rest at hrl HREST
 have hrest2 : (rest : Int) < 4294967296 := by omega
 have hlimb : Zj [rest] := by intro x hx; simp at hx; omega
 have e2 : Zt n1 [rest] = Zt n1 (Za (val xs % val ys)) := by unfold Zt; rw [Z3, HREST.out]
 have HLIMB := Hd hlimb
 have HE2 := Hd e2
 have C4 := Hd (fun (V' : World) (g : Nat) (hr : Yr V' g [rest]) => YD n1 (some ⟨g, 0, none⟩) 1 [rest] V' (hr.front.raw (by simp) HLIMB.out))
 clear e1 e2 hs1 hfq hlq hvq hzq hb hgr hb1 PX1 PY1 PQ1 PR1 B1 C2 RX1 RY1 hdk yw0 yw1 hcy2 hrest hlimb hbl hadl
 have HW := Hd (Below.refl V.heap.size V)
 have hg1 : w.heap.size + 1 + 1 < wz.heap.size := by omega
 have hg2 : w.heap.size + 1 + 1 + 1 < wz.heap.size := by omega
 have hwV : wz.heap.size <= V.heap.size := by have := B2.out.size; omega
 go_wp2_with fail
 refine YA [.val (.pointer (some ⟨w.heap.size, 0, none⟩)), .val (.bool n1), .val (.pointer (some ⟨w.heap.size + 1, 0, none⟩)), .val (.bool n2), .val (.bool (n1 != n2)), .val (.slice (some ⟨gl, 0, none⟩) zq.length cl), .val (.agg #[.bool b1, .slice A1 k1 c1]), .val (.pointer (some ⟨w.heap.size, 0, none⟩)), .val (.bool n1), .val (.int .u32 (rest : Int)), .step, .step, .step, .step] 2 4 V
   (fun us V' => match us with
     | [] => True
     | [u] => ∃ g, u = .slice (some ⟨g, 0, none⟩) 1 1 /\ V.heap.size <= g /\ Yr V' g [rest]
     | [_, u] => Zc V' V.heap.size u (Zt n1 (Za (val xs % val ys)))
     | _ => False)
   (fun us V' => match us with
     | [_, u, _] => AggBool u /\ Xi w V' wz.heap.size (w.heap.size + 1 + 1) (w.heap.size + 1 + 1 + 1) (.agg #[.bool b1, .slice A1 k1 c1]) (Zt (n1 != n2) (Za (val xs / val ys))) u (Zt n1 (Za (val xs % val ys))) b1 (.slice A1 k1 c1) false (.slice none 0 0)
     | [_, u, _, _] => Stored2 w V' wz.heap.size (w.heap.size + 1 + 1) (w.heap.size + 1 + 1 + 1) (.agg #[.bool b1, .slice A1 k1 c1]) (Zt (n1 != n2) (Za (val xs / val ys))) u (Zt n1 (Za (val xs % val ys))) b1 (.slice A1 k1 c1)
     | _ => False)
   _ Zg ?_ ?_ ?_ ?_ ?_ ?_ ?_ ?_ ?_ rfl ?_ HW.out trivial ?_ ?_ ?_
 iterate 9 kernel_rfl
 . intro us V1 V2 hg hb
   match us, hg with
   | [], _ => trivial
   | [u], ⟨g, h1, h2, h3⟩ => exact ⟨g, h1, h2, h3.below hb⟩
   | [_, u], hg => exact hg.below hb
 . simp [Xc, ZI, ZA, Zl, Z8]
   repeat' apply And.intro
   all_goals
     intro V' hV
     obtain ⟨-, e0, e1, -, -⟩ := (PX2.out.below hV).facts
     obtain ⟨-, f0, f1, -, -⟩ := (PY2.out.below hV).facts
     have HV := Hd hV
     clear hV
     go_simp
     first
     | exact Below.refl _ _
     | exact ⟨by cases n1 <;> cases n2 <;> rfl, Below.refl _ _⟩
     | (with_reducible refine (C3.out V' HV.out).mono ?_; rintro e w' ⟨rfl, hb⟩; exact ⟨rfl, hb⟩)
 . simp [YH, ZI, ZA, Zl, Z8, Ye, List.filter, Stp.isStep]
   refine ⟨fun V' hV => ?_, fun va => ⟨fun V' hV g h1 h2 h3 => ?_, fun vb => ⟨fun V' hV hI => ?_, fun V' h1 hst => ?_⟩⟩⟩
   . have HV := Hd hV
     have hsz2 := hV.size
     clear hV
     go_simp
     exact ⟨HV.out.alloc hsz2 _, ⟨Z2.new V' _ _⟩⟩
   . have C5 := C4.out V' g h3
     obtain ⟨b2, A2, k2, c2, hs2⟩ := sv_form n1 (some ⟨g, 0, none⟩) 1 [rest]
     have I2 := Hd (Zc.sv (neg := n1) (c := 1) HLIMB.out (by have := h3.front.own h2 (Nat.le_refl _) (by simp); rwa [List.take_length] at this) (Nat.le_refl _) (by simp))
     rw [hs2] at C5 I2
     rw [HE2.out] at I2
     have H5 := Hd C5
     have HV := Hd hV
     clear hV C5 h3 hs2
     subst h1
     go_simp
     refine H5.out.mono ?_
     rintro e w' ⟨rfl, hb⟩
     exact ⟨Zb HV.out hb, I2.out.below hb⟩
   . obtain ⟨A2, c2, hform, -, -, hown⟩ := hI.form
     have st : Xi w V' wz.heap.size (w.heap.size + 1 + 1) (w.heap.size + 1 + 1 + 1) (.agg #[.bool b1, .slice A1 k1 c1]) (Zt (n1 != n2) (Za (val xs / val ys))) vb (Zt n1 (Za (val xs % val ys))) false (.slice none 0 0) false (.slice none 0 0) :=
       ⟨⟨IQ.out.below hV, hI.base hwV, fun g h1 h2 => by
         have e := HBQ.out g h1
         rw [hform] at h2
         have h3 := (hown.lt g h2).1
         have e2 : gl = g := e
         omega⟩, PQ2.out.below hV, PR2.out.below hV, Zb B2.out hV⟩
     obtain ⟨q1, q2, q3, q4, q5⟩ := st.pq.facts
     have S := Hd (st.one hg1 (by omega) (by omega) b1 (.slice A1 k1 c1))
     have HF2 : AggBool vb := ⟨_, _, _, _, hform⟩
     clear st hown hI hV
     subst hform
     go_simp
     exact S.out
   . obtain ⟨b2, A2, k2, c2, rfl⟩ := h1
     obtain ⟨q1, q2, q3, q4, q5⟩ := hst.pr.facts
     have S := Hd (hst.two hg2 (by omega) (by omega) b2 (.slice A2 k2 c2))
     clear hst
     go_simp
     exact ⟨_, _, rfl, S.out⟩
 . intro us V' hus hF
   obtain ⟨u0, u1, u2, u3, rfl⟩ : ∃ u0 u1 u2 u3, us = [u0, u1, u2, u3] := by
     match us, hus with
     | [u0, u1, u2, u3], _ => exact ⟨u0, u1, u2, u3, rfl⟩
   simp only [show ¬ (4 <= 2) by decide, if_false] at hF
   obtain ⟨b2, s2, rfl, hF⟩ := hF.ex
   simp [ZI, ZA, Zl, Z8, Ye, List.filter, Stp.isStep]
   obtain ⟨_, k0, k1, _, _⟩ := hF.pq.facts
   obtain ⟨_, k2, k3, _, _⟩ := hF.pr.facts
   have HF := Hd hF
   clear hF PX2 PY2
   go_wp2_with fail
   exact bodyPost_ret (by simp [results, Tryz.results181, go_sem, k0, k1, k2, k3]) rfl ⟨_, _, rfl, HF.out.ints.base (by omega), HF.out.low⟩

theorem quo_val (n1 n2 : Bool) (xs ys : List Nat) : Zt (n1 != n2) (Za (val xs / val ys)) = (Zt n1 xs).tdiv (Zt n2 ys) /\ Zt n1 (Za (val xs % val ys)) = (Zt n1 xs).tmod (Zt n2 ys) := by
 unfold Zt
 rw [Z3, Z3]
 have e1 : ((val xs % val ys : Nat) : Int) = (val xs : Int).tmod (val ys : Int) := by rw [Int.ofNat_tmod]
 rw [e1]
 cases n1 <;> cases n2 <;> simp [Int.neg_tdiv, Int.tdiv_neg, Int.neg_tmod, Int.tmod_neg]
theorem exact_Divide (n1 n2 : Bool) (A B : Option Addr) (c d : Nat) (xs ys : List Nat) (hcx : Z7 xs) (hcy : Z7 ys) (hne : ys ≠ []) (hlx : xs.length <= 536870912) (hly : ys.length <= 536870912) (w : World) (h : Zr w A c xs) (g : Zr w B d ys) :
   Calls Tryz.prog 181 #[.agg #[.bool n1, .slice A xs.length c], .agg #[.bool n2, .slice B ys.length d]] w (RetTwo w.heap.size w ((Zt n1 xs).tdiv (Zt n2 ys)) ((Zt n1 xs).tmod (Zt n2 ys))) := by
 rw [<- (quo_val n1 n2 xs ys).1, <- (quo_val n1 n2 xs ys).2]
 rcases Nat.lt_or_ge (val xs) (val ys) with hlt | hle
 . have e1 : Zt (n1 != n2) (Za (val xs / val ys)) = 0 := by
     rw [Nat.div_eq_of_lt hlt]; unfold Zt; rw [Z3]; cases n1 <;> cases n2 <;> rfl
   have e2 : Zt n1 (Za (val xs % val ys)) = Zt n1 xs := by
     rw [Nat.mod_eq_of_lt hlt]; unfold Zt; rw [Z3]
   rw [e1, e2]
   exact exact_Divide_less n1 n2 A B c d xs ys hcx hcy hlt hlx hly w h g
 . have h1 : 1 <= ys.length := by
     rcases Nat.eq_zero_or_pos ys.length with h0 | h0
     . exact absurd (List.eq_nil_of_length_eq_zero h0) hne
     . exact h0
   rcases Nat.lt_or_ge 1 ys.length with h2 | h2
   . exact exact_Divide_many n1 n2 A B c d xs ys hcx hcy hle h2 hlx hly w h g
   . exact exact_Divide_one n1 n2 A B c d xs ys hcx hcy hle (by omega) hlx hly w h g

theorem intInfo : (Tryz.prog.info? 24).map (·.size) = some 2 := by kernel_rfl
theorem Zc.kept {B : Nat} {Ts : List TypeId} {w w' : World} {base : Nat} {v : Value} {x : Int} (h : Zc w base v x) (k : Zq B Ts w w') (hT : 109 ∉ Ts) : Zc w' base v x := by
 obtain ⟨A, c, h1, h2, h3, h4⟩ := h.form
 exact ⟨A, c, h1, h2, h3, k.own h4 hT⟩
theorem Zc.cells {w : World} {base : Nat} {v : Value} {x : Int} (h : Zc w base v x) : CellsN v 2 := by
 obtain ⟨A, c, rfl, -⟩ := h.form
 exact ⟨rfl, by simp [Value.cells, Value.oneCell']⟩
def Xh (v : Value) (g : Nat) : Prop := blkOf v = some g
def RetBoth (base : Nat) (w : World) (z1 z2 : Int) (e : Ending) (w' : World) : Prop := ∃ v1 v2, e = .returned (.tuple #[v1, v2]) /\ Zc w' base v1 z1 /\ Zc w' base v2 z2 /\ Below w.heap.size w w'
theorem allocInt {o : Oper} (h : o.op = .alloc 24) : AllocF Tryz.prog o 24 2 := by
 refine ⟨#[.bool false, .slice none 0 0], rfl, fun ρ w => ?_⟩
 unfold execOp
 rw [h]
 kernel_rfl
theorem Zc.nat {w : World} {base n : Nat} {v : Value} (h : Zc w base v (n : Int)) : ∃ A c, v = .agg #[.bool false, .slice A (Za n).length c] /\ Y6 w base (.slice A (Za n).length c) n := by
 obtain ⟨A, c, h1, h2, h3, h4⟩ := h.form
 have e : decide ((n : Int) < 0) = false := by simp
 rw [e] at h1
 simp only [Int.natAbs_natCast] at h1 h2 h3 h4
 exact ⟨A, c, h1, A, c, rfl, h2, h3, h4⟩
theorem Y6.int {w : World} {base n c : Nat} {A : Option Addr} (h : Y6 w base (.slice A (Za n).length c) n) : Zc w base (.agg #[.bool false, .slice A (Za n).length c]) (n : Int) := by
 obtain ⟨A', c', h1, h2, h3, h4⟩ := h.form
 injection h1 with a1 a2 a3
 subst a1 a3
 have e : decide ((n : Int) < 0) = false := by simp
 exact ⟨A, c, by rw [e]; rfl, h2, h3, h4⟩
theorem Zp.size {w : World} {g : Nat} {t : TypeId} {a b : Value} (h : Zp w g t a b) : g < w.heap.size := h.blk.lt
theorem Zc.shape {w : World} {base : Nat} {v : Value} {x : Int} (h : Zc w base v x) : ∃ b A k c, v = .agg #[.bool b, .slice A k c] := by
 obtain ⟨A, c, h1, -⟩ := h.form
 exact ⟨_, _, _, _, h1⟩
theorem Y6.pair {w : World} {base n g : Nat} {v a b : Value} (h : Y6 w base v n) (p : Zp w g 24 a b) (x y : Value) : Y6 ((w.setCell ⟨g, 0, none⟩ x).setCell ⟨g, 1, none⟩ y) base v n := by
 obtain ⟨A, c, h1, h2, h3, h4⟩ := h.form
 exact ⟨A, c, h1, h2, h3, own_pair h4 (Xf h4 p.blk (by decide))⟩


def RetNN (base : Nat) (w : World) (n1 n2 : Nat) (e : Ending) (w' : World) : Prop := ∃ v1 v2, e = .returned (.tuple #[v1, v2]) /\ Y6 w' base v1 n1 /\ Y6 w' base v2 n2 /\ Below w.heap.size w w'

structure RDiv (w wr : World) (g : Nat) (xs ys : List Nat) (v : Value) (k R : Nat) (zs : List Nat) : Prop where
 len : zs.length = xs.length
 limbs : Zj zs
 row : Yr wr g zs
 low : Below w.heap.size w wr
 own : Y6 wr (g + 1) v R
 eq : val (zs.drop k) * val ys + R = val (xs.drop k)
 lt : R < val ys
 nought : ∀ j, j < k -> Ji zs j = 0
end Go.Proofs.YtdonecnhdkjniaaGreatDoor
