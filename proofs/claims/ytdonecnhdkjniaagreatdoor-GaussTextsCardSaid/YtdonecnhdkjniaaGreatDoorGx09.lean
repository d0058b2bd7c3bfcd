/- Several texts in one: Own, Quo, IntFree, RefTimes, RefDivide. -/
import Derived.Test.YtdonecnhdkjniaaGreatDoorGx08
set_option maxRecDepth 100000
set_option maxHeartbeats 8000000
namespace Go.Proofs.YtdonecnhdkjniaaGreatDoor
open Go.RowKit

theorem Xj (neg : Bool) (A : Option Addr) (c : Nat) (xs : List Nat) (w : World) (h : Zm w A c xs) :
   Calls Tryz.prog 161 #[.bool neg, .slice A xs.length c] w fun e w' => e = .returned (sv neg A c xs) /\ Below w.heap.size w w' := by
 unfold sv
 by_cases h0 : val xs = 0
 . rw [if_pos h0]; exact XB neg A c xs w h h0
 . rw [if_neg h0]; exact X4 neg A c xs w h h0
theorem Zc.sv {w : World} {base : Nat} {neg : Bool} {A : Option Addr} {c : Nat} {zs : List Nat} (hz : Zj zs) (h : w.ownsRow base 109 1 (.slice A zs.length c) zs.length (Zh zs)) (hc : zs.length <= c) (hm : c <= 9223372036854775807) : Zc w base (sv neg A c zs) (Zv neg zs) := by
 unfold Go.Proofs.YtdonecnhdkjniaaGreatDoor.sv
 by_cases h0 : val zs = 0
 . rw [if_pos h0]
   have : Zv neg zs = 0 := by unfold Zv; rw [h0]; cases neg <;> rfl
   rw [this]; exact Zc.nought _ _
 . rw [if_neg h0]
   exact Zc.signed hz h hc hm rfl h0
def blkOf : Value -> Option Nat
 | .agg #[_, s] => s.ownBlock
 | _ => none
theorem sv_blk {neg : Bool} {a : Addr} {c : Nat} {zs : List Nat} {g : Nat} (h : blkOf (sv neg (some a) c zs) = some g) : a.block = g := by
 unfold sv at h
 split at h
 . cases h
 . exact Option.some.inj h
structure J6 (w : World) (base : Nat) (v1 : Value) (z1 : Int) (v2 : Value) (z2 : Int) : Prop where
 one : Zc w base v1 z1
 two : Zc w base v2 z2
 apart : ∀ g, blkOf v1 = some g -> blkOf v2 ≠ some g
theorem J6.below {w w' : World} {base : Nat} {v1 v2 : Value} {z1 z2 : Int} (h : J6 w base v1 z1 v2 z2) (hb : Below w.heap.size w w') : J6 w' base v1 z1 v2 z2 := ⟨h.one.below hb, h.two.below hb, h.apart⟩
theorem J6.base {w : World} {b b' : Nat} {v1 v2 : Value} {z1 z2 : Int} (h : J6 w b v1 z1 v2 z2) (hb : b' <= b) : J6 w b' v1 z1 v2 z2 := ⟨h.one.base hb, h.two.base hb, h.apart⟩
theorem J6.pair {w : World} {g base : Nat} {a b : Value} {v1 v2 : Value} {z1 z2 : Int} (h : J6 w base v1 z1 v2 z2) (hne : g < base) : J6 ((w.setCell ⟨g, 0, none⟩ a).setCell ⟨g, 1, none⟩ b) base v1 z1 v2 z2 := ⟨h.one.pair hne, h.two.pair hne, h.apart⟩
def RetTwo (base : Nat) (w : World) (z1 z2 : Int) (e : Ending) (w' : World) : Prop := ∃ v1 v2, e = .returned (.tuple #[v1, v2]) /\ J6 w' base v1 z1 v2 z2 /\ Below w.heap.size w w'

theorem exact_own (n1 : Bool) (A : Option Addr) (c : Nat) (xs : List Nat) (hl : xs.length <= 1073741824) (w : World) (h : Zm w A c xs) :
  Calls Tryz.prog 180 #[.bool n1, .slice A xs.length c] w (ZY w.heap.size w (Zv n1 xs)) := by
 have pr := Zr.new w 24 (.bool false) (.slice none 0 0)
 have b0 := (Below.refl w.heap.size w).alloc (Nat.le_refl _) (.cells #[.bool false, .slice none 0 0] 24)
 have rx := h.alloc (.cells #[.bool false, .slice none 0 0] 24)
 clear h
 go_enter Tryz.func180, Tryz.ntmps180
 obtain ⟨W, E⟩ : ∃ W, W = w.alloc (.cells #[.bool false, .slice none 0 0] 24) := ⟨_, rfl⟩
 have C1 := Hd (JA A c xs hl W (by rw [E]; exact rx))
 go_wp2_with fail
 rw [<- E] at pr b0 ⊢
 have hsz : w.heap.size + 1 = W.heap.size := by rw [E]; simp
 clear E rx
 have PR := Hd pr
 have B0 := Hd b0
 clear pr b0
 refine C1.out.mono ?_
 rintro e w1 ⟨v, rfl, hv, hb1⟩
 obtain ⟨A1, c1, rfl, h2, h3, h4⟩ := hv.form
 have C2 := Hd (Xj n1 A1 c1 xs w1 ⟨hv.limbs, h2, h3, ZD.of_own h4⟩)
 have I1 := Hd (Zc.sv (neg := n1) hv.limbs h4 h2 h3)
 have B1 := Hd (Zb B0.out hb1)
 have P1 := Hd (PR.out.below hb1)
 obtain ⟨b9, A9, k9, c9, hsv⟩ := sv_form n1 A1 c1 xs
 rw [hsv] at C2 I1
 clear C1 PR hv h4 hb1 hsv
 go_wp2_with fail
 refine C2.out.mono ?_
 rintro e w2 ⟨rfl, hb2⟩
 have pr := P1.out.below hb2
 obtain ⟨q1, q2, q3, q4, q5⟩ := pr.facts
 have hI := (I1.out.below hb2).pair (g := w.heap.size) (a := .bool b9) (b := .slice A9 k9 c9) (by omega)
 have hB := ZW (Zb B1.out hb2) (Nat.le_refl _) (.bool b9) (.slice A9 k9 c9)
 have hq := pr.store (.bool b9) (.slice A9 k9 c9)
 have HI := Hd hI
 have HB := Hd hB
 have HQ := Hd hq
 clear C2 I1 B1 P1 hb2 pr hI hB hq
 go_wp2_with fail
 obtain ⟨_, k0, k1, _, _⟩ := HQ.out.facts
 exact bodyPost_ret (by simp [results, Tryz.results180, go_sem, k0, k1]) rfl ⟨_, rfl, HI.out.base (by omega), HB.out⟩

theorem exact_Divide_less (n1 n2 : Bool) (A B : Option Addr) (c d : Nat) (xs ys : List Nat) (hcx : ZU xs) (hcy : ZU ys) (hlt : val xs < val ys) (hlx : xs.length <= 536870912) (hly : ys.length <= 536870912) (w : World) (h : Zm w A c xs) (g : Zm w B d ys) :
  Calls Tryz.prog 181 #[.agg #[.bool n1, .slice A xs.length c], .agg #[.bool n2, .slice B ys.length d]] w (RetTwo w.heap.size w 0 (Zv n1 xs)) := by
 have px := (((Zr.new w 24 (.bool n1) (.slice A xs.length c)).alloc (.cells #[.bool n2, .slice B ys.length d] 24)).alloc (.cells #[.bool false, .slice none 0 0] 24)).alloc (.cells #[.bool false, .slice none 0 0] 24)
 have py := ((Zr.new (w.alloc (.cells #[.bool n1, .slice A xs.length c] 24)) 24 (.bool n2) (.slice B ys.length d)).alloc (.cells #[.bool false, .slice none 0 0] 24)).alloc (.cells #[.bool false, .slice none 0 0] 24)
 have pq := (Zr.new ((w.alloc (.cells #[.bool n1, .slice A xs.length c] 24)).alloc (.cells #[.bool n2, .slice B ys.length d] 24)) 24 (.bool false) (.slice none 0 0)).alloc (.cells #[.bool false, .slice none 0 0] 24)
 have pr := Zr.new (((w.alloc (.cells #[.bool n1, .slice A xs.length c] 24)).alloc (.cells #[.bool n2, .slice B ys.length d] 24)).alloc (.cells #[.bool false, .slice none 0 0] 24)) 24 (.bool false) (.slice none 0 0)
 have rx := ((((h.alloc (.cells #[.bool n1, .slice A xs.length c] 24)).alloc (.cells #[.bool n2, .slice B ys.length d] 24)).alloc (.cells #[.bool false, .slice none 0 0] 24)).alloc (.cells #[.bool false, .slice none 0 0] 24))
 have ry := ((((g.alloc (.cells #[.bool n1, .slice A xs.length c] 24)).alloc (.cells #[.bool n2, .slice B ys.length d] 24)).alloc (.cells #[.bool false, .slice none 0 0] 24)).alloc (.cells #[.bool false, .slice none 0 0] 24))
 have b0 := ((((Below.refl w.heap.size w).alloc (Nat.le_refl _) (.cells #[.bool n1, .slice A xs.length c] 24)).alloc (by simp) (.cells #[.bool n2, .slice B ys.length d] 24)).alloc (by simp; omega) (.cells #[.bool false, .slice none 0 0] 24)).alloc (by simp; omega) (.cells #[.bool false, .slice none 0 0] 24)
 simp only [World.size_alloc] at py pq pr
 clear h g
 go_enter Tryz.func181, Tryz.ntmps181
 go_wp2_with fail
 obtain ⟨W, E⟩ : ∃ W, W = ((((w.alloc (.cells #[.bool n1, .slice A xs.length c] 24)).alloc (.cells #[.bool n2, .slice B ys.length d] 24)).alloc (.cells #[.bool false, .slice none 0 0] 24)).alloc (.cells #[.bool false, .slice none 0 0] 24)) := ⟨_, rfl⟩
 rw [<- E] at px py pq pr b0 rx ry ⊢
 have hsz : W.heap.size = w.heap.size + 4 := by rw [E]; simp
 clear E
 have PX := Hd px
 have PY := Hd py
 have PQ := Hd pq
 have PR := Hd pr
 have B0 := Hd b0
 have RX := Hd rx
 have RY := Hd ry
 obtain ⟨l1, x0, x1, -, -⟩ := px.facts
 obtain ⟨l2, y0, y1, -, -⟩ := py.facts
 clear px py pq pr rx ry b0
 refine (Xi A B c d xs ys hcx hcy (by omega) (by omega) W RX.out RY.out).mono ?_
 rintro e wz ⟨kz, rfl, hk, hbz⟩
 have hk2 := hk.2 hlt
 have hdk : decide (kz < 0) = true := by simp; omega
 obtain ⟨-, xz0, xz1, -, -⟩ := (PX.out.below hbz).facts
 obtain ⟨-, yz0, yz1, -, -⟩ := (PY.out.below hbz).facts
 have C1 := Hd (exact_own n1 A c xs (by omega) wz (RX.out.below hbz))
 have B1 := Hd (Zb B0.out hbz)
 have PQ1 := Hd (PQ.out.below hbz)
 have PR1 := Hd (PR.out.below hbz)
 have hz1 := hbz.size
 clear hk hk2 hbz l1 x0 x1 l2 y0 y1 PX PY RX RY B0 PQ PR
 go_wp2_with fail
 refine C1.out.mono ?_
 rintro e w1 ⟨v, rfl, hv, hb⟩
 obtain ⟨A1, c1, hform, -⟩ := hv.form
 rw [hform] at hv ⊢
 have pq := PQ1.out.below hb
 have pr := PR1.out.below hb
 obtain ⟨a1, a2, a3, a4, a5⟩ := pq.facts
 obtain ⟨r1, r2, r3, r4, r5⟩ := pr.facts
 have hlr := PR1.out.blk.lt
 have HI := Hd ((J6.mk (Zc.nought w1 wz.heap.size) hv (fun g h => by cases h)).pair (g := w.heap.size + 1 + 1) (a := .bool false) (b := .slice none 0 0) (by omega))
 have HI2 := Hd (HI.out.pair (g := w.heap.size + 1 + 1 + 1) (a := .bool (decide (Zv n1 xs < 0))) (b := .slice A1 (Za (Zv n1 xs).natAbs).length c1) (by omega))
 have HB := Hd (ZW (ZW (Zb B1.out hb) (show w.heap.size <= w.heap.size + 1 + 1 by omega) (.bool false) (.slice none 0 0)) (show w.heap.size <= w.heap.size + 1 + 1 + 1 by omega) (.bool (decide (Zv n1 xs < 0))) (.slice A1 (Za (Zv n1 xs).natAbs).length c1))
 have HQ := Hd ((pq.store (.bool false) (.slice none 0 0)).far (show w.heap.size + 1 + 1 ≠ w.heap.size + 1 + 1 + 1 by omega) (.bool (decide (Zv n1 xs < 0))) (.slice A1 (Za (Zv n1 xs).natAbs).length c1))
 have HR := Hd ((pr.far (show w.heap.size + 1 + 1 + 1 ≠ w.heap.size + 1 + 1 by omega) (.bool false) (.slice none 0 0)).store (.bool (decide (Zv n1 xs < 0))) (.slice A1 (Za (Zv n1 xs).natAbs).length c1))
 clear hb hv B1 PQ1 PR1 C1 pq pr xz0 xz1 yz0 yz1 HI
 go_wp2_with fail
 obtain ⟨_, k0, k1, _, _⟩ := HQ.out.facts
 obtain ⟨_, k2, k3, _, _⟩ := HR.out.facts
 exact bodyPost_ret (by simp [results, Tryz.results181, go_sem, k0, k1, k2, k3]) rfl ⟨_, _, rfl, HI2.out.base (by omega), HB.out⟩

structure Jf (w V : World) (base gq gr : Nat) (v1 : Value) (z1 : Int) (v2 : Value) (z2 : Int) (b1 : Bool) (s1 : Value) (b2 : Bool) (s2 : Value) : Prop where
 ints : J6 V base v1 z1 v2 z2
 pq : Zr V gq 24 (.bool b1) s1
 pr : Zr V gr 24 (.bool b2) s2
 low : Below w.heap.size w V
def AggBool (u : Value) : Prop := ∃ (b : Bool) (A : Option Addr) (k c : Nat), u = .agg #[.bool b, .slice A k c]
theorem Jf.one {w V : World} {base gq gr : Nat} {v1 v2 : Value} {z1 z2 : Int} {b1 b2 : Bool} {s1 s2 : Value} (h : Jf w V base gq gr v1 z1 v2 z2 b1 s1 b2 s2) (hgq : gq < base) (hne : gr ≠ gq) (hw : w.heap.size <= gq) (b : Bool) (s : Value) : Jf w ((V.setCell ⟨gq, 0, none⟩ (.bool b)).setCell ⟨gq, 1, none⟩ s) base gq gr v1 z1 v2 z2 b s b2 s2 :=
 ⟨h.ints.pair hgq, h.pq.store _ _, h.pr.far hne _ _, ZW h.low hw _ _⟩
structure Stored2 (w V : World) (base gq gr : Nat) (v1 : Value) (z1 : Int) (v2 : Value) (z2 : Int) (b1 : Bool) (s1 : Value) : Prop where
 ex : ∃ (b2 : Bool) (s2 : Value), v2 = .agg #[.bool b2, s2] /\ Jf w V base gq gr v1 z1 v2 z2 b1 s1 b2 s2
theorem Jf.two {w V : World} {base gq gr : Nat} {v1 v2 : Value} {z1 z2 : Int} {b1 b2 : Bool} {s1 s2 : Value} (h : Jf w V base gq gr v1 z1 v2 z2 b1 s1 b2 s2) (hgr : gr < base) (hne : gq ≠ gr) (hw : w.heap.size <= gr) (b : Bool) (s : Value) : Jf w ((V.setCell ⟨gr, 0, none⟩ (.bool b)).setCell ⟨gr, 1, none⟩ s) base gq gr v1 z1 v2 z2 b1 s1 b s :=
 ⟨h.ints.pair hgr, h.pq.far hne _ _, h.pr.store _ _, ZW h.low hw _ _⟩

theorem exact_Divide_many (n1 n2 : Bool) (A B : Option Addr) (c d : Nat) (xs ys : List Nat) (hcx : ZU xs) (hcy : ZU ys) (hle : val ys <= val xs) (h2 : 2 <= ys.length) (hlx : xs.length <= 536870912) (hly : ys.length <= 536870912) (w : World) (h : Zm w A c xs) (g : Zm w B d ys) :
   Calls Tryz.prog 181 #[.agg #[.bool n1, .slice A xs.length c], .agg #[.bool n2, .slice B ys.length d]] w (RetTwo w.heap.size w (Zv (n1 != n2) (Za (val xs / val ys))) (Zv n1 (Za (val xs % val ys)))) := by
 have px := (((Zr.new w 24 (.bool n1) (.slice A xs.length c)).alloc (.cells #[.bool n2, .slice B ys.length d] 24)).alloc (.cells #[.bool false, .slice none 0 0] 24)).alloc (.cells #[.bool false, .slice none 0 0] 24)
 have py := ((Zr.new (w.alloc (.cells #[.bool n1, .slice A xs.length c] 24)) 24 (.bool n2) (.slice B ys.length d)).alloc (.cells #[.bool false, .slice none 0 0] 24)).alloc (.cells #[.bool false, .slice none 0 0] 24)
 have pq := (Zr.new ((w.alloc (.cells #[.bool n1, .slice A xs.length c] 24)).alloc (.cells #[.bool n2, .slice B ys.length d] 24)) 24 (.bool false) (.slice none 0 0)).alloc (.cells #[.bool false, .slice none 0 0] 24)
 have pr := Zr.new (((w.alloc (.cells #[.bool n1, .slice A xs.length c] 24)).alloc (.cells #[.bool n2, .slice B ys.length d] 24)).alloc (.cells #[.bool false, .slice none 0 0] 24)) 24 (.bool false) (.slice none 0 0)
 have rx := ((((h.alloc (.cells #[.bool n1, .slice A xs.length c] 24)).alloc (.cells #[.bool n2, .slice B ys.length d] 24)).alloc (.cells #[.bool false, .slice none 0 0] 24)).alloc (.cells #[.bool false, .slice none 0 0] 24))
 have ry := ((((g.alloc (.cells #[.bool n1, .slice A xs.length c] 24)).alloc (.cells #[.bool n2, .slice B ys.length d] 24)).alloc (.cells #[.bool false, .slice none 0 0] 24)).alloc (.cells #[.bool false, .slice none 0 0] 24))
 have b0 := ((((Below.refl w.heap.size w).alloc (Nat.le_refl _) (.cells #[.bool n1, .slice A xs.length c] 24)).alloc (by simp) (.cells #[.bool n2, .slice B ys.length d] 24)).alloc (by simp; omega) (.cells #[.bool false, .slice none 0 0] 24)).alloc (by simp; omega) (.cells #[.bool false, .slice none 0 0] 24)
 simp only [World.size_alloc] at py pq pr
 clear h g
 go_enter Tryz.func181, Tryz.ntmps181
 go_wp2_with fail
 obtain ⟨W, E⟩ : ∃ W, W = ((((w.alloc (.cells #[.bool n1, .slice A xs.length c] 24)).alloc (.cells #[.bool n2, .slice B ys.length d] 24)).alloc (.cells #[.bool false, .slice none 0 0] 24)).alloc (.cells #[.bool false, .slice none 0 0] 24)) := ⟨_, rfl⟩
 rw [<- E] at px py pq pr b0 rx ry ⊢
 have hsz : W.heap.size = w.heap.size + 4 := by rw [E]; simp
 clear E
 have PX := Hd px
 have PY := Hd py
 have PQ := Hd pq
 have PR := Hd pr
 have B0 := Hd b0
 have RX := Hd rx
 have RY := Hd ry
 obtain ⟨l1, x0, x1, -, -⟩ := px.facts
 obtain ⟨l2, y0, y1, -, -⟩ := py.facts
 clear px py pq pr rx ry b0
 refine (Xi A B c d xs ys hcx hcy (by omega) (by omega) W RX.out RY.out).mono ?_
 rintro e wz ⟨kz, rfl, hk, hbz⟩
 have hk2 := hk.1 hle
 have hdk : decide (kz < 0) = false := by simp; omega
 obtain ⟨-, xz0, xz1, -, -⟩ := (PX.out.below hbz).facts
 obtain ⟨-, yz0, yz1, -, -⟩ := (PY.out.below hbz).facts
 have B1 := Hd (Zb B0.out hbz)
 have PX1 := Hd (PX.out.below hbz)
 have PY1 := Hd (PY.out.below hbz)
 have PQ1 := Hd (PQ.out.below hbz)
 have PR1 := Hd (PR.out.below hbz)
 have RX1 := Hd (RX.out.below hbz)
 have RY1 := Hd (RY.out.below hbz)
 have hz1 := hbz.size
 obtain ⟨m, k, r, hm1, hm2, hm3, hm4⟩ : ∃ m k r, k = m + 1 /\ xs.length = k + r /\ 1 <= r /\ ys.length = k + 1 := by
   have := len_of_val RY.out.limbs RX.out.limbs hcy hle
   exact ⟨ys.length - 2, ys.length - 1, xs.length - (ys.length - 1), by omega, by omega, by omega, by omega⟩
 have h0 : JU ys k ≠ 0 := by
   rw [Yk (by omega)]
   exact hcy _ (Y5 hm4)
 have hly1 : decide (ys.length = 1) = false := by simp; omega
 have hly2 : ((ys.length : Int) == 1) = false := by simp; omega
 have C1 := exact_divide A B c d xs ys m k r hm1 hm2 hm3 hm4 h0 hlx wz RX1.out RY1.out
 rw [<- hm2, <- hm4] at C1
 have C2 := Hd C1
 clear C1 hm1 hm2 hm3 hm4 h0 hk hk2 hbz l1 x0 x1 l2 y0 y1 PX PY RX RY B0 PQ PR
 go_wp2_with fail
 refine C2.out.mono ?_
 rintro e V ⟨gl, gq, cl, zl, zq, rfl, hne, hgl, hgq, hrq, hfl, hzq, hzl, hvq, hvl, hlq, hll, hcl, hb⟩
 have hfq := hrq.front
 have PX2 := Hd (PX1.out.below hb)
 have PY2 := Hd (PY1.out.below hb)
 have ST := Hd (Jf.mk (b1 := false) (s1 := .slice none 0 0) (b2 := false) (s2 := .slice none 0 0) (J6.mk
     (Zc.sv (neg := n1 != n2) hzq (by have := hfq.own hgq (Nat.le_refl _) (by omega); rwa [List.take_length] at this) (Nat.le_refl _) (by omega))
     (Zc.sv (neg := n1) hzl (by have := hfl.own hgl (Nat.le_refl _) hcl; rwa [List.take_length] at this) hfl.fits hcl)
     (fun g h1 h2 => hne ((sv_blk h2).trans (sv_blk h1).symm))) (PQ1.out.below hb) (PR1.out.below hb) (Zb B1.out hb))
 have e1 : Zv (n1 != n2) zq = Zv (n1 != n2) (Za (val xs / val ys)) := by unfold Zv; rw [Zi, hvq]
 have e2 : Zv n1 zl = Zv n1 (Za (val xs % val ys)) := by unfold Zv; rw [Zi, hvl]
 rw [e1, e2] at ST
 have C3 := Hd (fun (V' : World) (hV : Below V.heap.size V V') => Xj (n1 != n2) (some ⟨gq, 0, none⟩) zq.length zq V' ((hfq.below hV).raw (by omega) hzq))
 have C4 := Hd (fun (V' : World) (hV : Below V.heap.size V V') => Xj n1 (some ⟨gl, 0, none⟩) cl zl V' ((hfl.below hV).raw hcl hzl))
 obtain ⟨b1, A1, k1, c1, hs1⟩ := sv_form (n1 != n2) (some ⟨gq, 0, none⟩) zq.length zq
 obtain ⟨b2, A2, k2, c2, hs2⟩ := sv_form n1 (some ⟨gl, 0, none⟩) cl zl
 rw [hs1] at C3 ST
 rw [hs2] at C4 ST
 clear e1 e2 hs1 hs2 hfq hfl hrq hb hcl hll hlq hvl hvq hzl hzq hgl hgq hne PX1 PY1 PQ1 PR1 B1 C2 RX1 RY1 xz0 xz1 yz0 yz1 hdk hly1 hly2
 have HW := Hd (Below.refl V.heap.size V)
 have hg1 : w.heap.size + 1 + 1 < wz.heap.size := by omega
 have hg2 : w.heap.size + 1 + 1 + 1 < wz.heap.size := by omega
 go_wp2_with fail
 refine YS [.val (.pointer (some ⟨w.heap.size, 0, none⟩)), .val (.bool n1), .val (.pointer (some ⟨w.heap.size + 1, 0, none⟩)), .val (.bool n2), .val (.bool (n1 != n2)), .val (.slice (some ⟨gq, 0, none⟩) zq.length zq.length), .val (.agg #[.bool b1, .slice A1 k1 c1]), .val (.pointer (some ⟨w.heap.size, 0, none⟩)), .val (.bool n1), .val (.slice (some ⟨gl, 0, none⟩) zl.length cl), .val (.agg #[.bool b2, .slice A2 k2 c2]), .step, .step] 0 2 V
   (fun us V' => True)
   (fun us V' => match us with
     | [_] => Jf w V' wz.heap.size (w.heap.size + 1 + 1) (w.heap.size + 1 + 1 + 1) (.agg #[.bool b1, .slice A1 k1 c1]) (Zv (n1 != n2) (Za (val xs / val ys))) (.agg #[.bool b2, .slice A2 k2 c2]) (Zv n1 (Za (val xs % val ys))) b1 (.slice A1 k1 c1) false (.slice none 0 0)
     | _ => Jf w V' wz.heap.size (w.heap.size + 1 + 1) (w.heap.size + 1 + 1 + 1) (.agg #[.bool b1, .slice A1 k1 c1]) (Zv (n1 != n2) (Za (val xs / val ys))) (.agg #[.bool b2, .slice A2 k2 c2]) (Zv n1 (Za (val xs % val ys))) b1 (.slice A1 k1 c1) b2 (.slice A2 k2 c2))
   _ Zf ?_ ?_ ?_ ?_ ?_ ?_ ?_ ?_ ?_ rfl ?_ HW.out trivial ?_ ?_ ?_
 iterate 9 kernel_rfl
 . intro us V1 V2 _ _
   trivial
 . simp [XD, ZO, ZF, Zn, Yc]
   repeat' apply And.intro
   all_goals
     intro V' hV
     obtain ⟨-, e0, e1, -, -⟩ := (PX2.out.below hV).facts
     obtain ⟨-, f0, f1, -, -⟩ := (PY2.out.below hV).facts
     have HV := Hd hV
     clear hV
     go_simp
     first
     | exact Below.refl _ _
     | exact ⟨by cases n1 <;> cases n2 <;> rfl, Below.refl _ _⟩
     | (with_reducible refine (C3.out V' HV.out).mono ?_; rintro e w' ⟨rfl, hb⟩; exact ⟨rfl, hb⟩)
     | (with_reducible refine (C4.out V' HV.out).mono ?_; rintro e w' ⟨rfl, hb⟩; exact ⟨rfl, hb⟩)
 . simp [Y1, ZO, ZF, Zn, Yc]
   refine ⟨fun V' hV => ?_, fun V' hst => ?_⟩
   . have st : Jf w V' wz.heap.size (w.heap.size + 1 + 1) (w.heap.size + 1 + 1 + 1) (.agg #[.bool b1, .slice A1 k1 c1]) (Zv (n1 != n2) (Za (val xs / val ys))) (.agg #[.bool b2, .slice A2 k2 c2]) (Zv n1 (Za (val xs % val ys))) false (.slice none 0 0) false (.slice none 0 0) := ⟨ST.out.ints.below hV, ST.out.pq.below hV, ST.out.pr.below hV, Zb ST.out.low hV⟩
     obtain ⟨q1, q2, q3, q4, q5⟩ := st.pq.facts
     have S := Hd (st.one hg1 (by omega) (by omega) b1 (.slice A1 k1 c1))
     clear st
     go_simp
     exact S.out
   . obtain ⟨q1, q2, q3, q4, q5⟩ := hst.pr.facts
     have S := Hd (hst.two hg2 (by omega) (by omega) b2 (.slice A2 k2 c2))
     clear hst
     go_simp
     exact S.out
 . intro us V' hus hF
   obtain ⟨u0, u1, rfl⟩ : ∃ u0 u1, us = [u0, u1] := by
     match us, hus with
     | [u0, u1], _ => exact ⟨u0, u1, rfl⟩
   simp only [show ¬ (2 <= 0) by decide, if_false] at hF
   simp [ZO, ZF, Zn, Yc]
   obtain ⟨_, k0, k1, _, _⟩ := hF.pq.facts
   obtain ⟨_, k2, k3, _, _⟩ := hF.pr.facts
   have HF := Hd hF
   clear hF PX2 PY2 ST
   go_wp2_with fail
   exact bodyPost_ret (by simp [results, Tryz.results181, go_sem, k0, k1, k2, k3]) rfl ⟨_, _, rfl, HF.out.ints.base (by omega), HF.out.low⟩

theorem exact_Divide_one (n1 n2 : Bool) (A B : Option Addr) (c d : Nat) (xs ys : List Nat) (hcx : ZU xs) (hcy : ZU ys) (hle : val ys <= val xs) (hl1 : ys.length = 1) (hlx : xs.length <= 536870912) (hly : ys.length <= 536870912) (w : World) (h : Zm w A c xs) (g : Zm w B d ys) :
   Calls Tryz.prog 181 #[.agg #[.bool n1, .slice A xs.length c], .agg #[.bool n2, .slice B ys.length d]] w (RetTwo w.heap.size w (Zv (n1 != n2) (Za (val xs / val ys))) (Zv n1 (Za (val xs % val ys)))) := by
 have HL1 := Hd hl1
 clear hl1
 have px := (((Zr.new w 24 (.bool n1) (.slice A xs.length c)).alloc (.cells #[.bool n2, .slice B ys.length d] 24)).alloc (.cells #[.bool false, .slice none 0 0] 24)).alloc (.cells #[.bool false, .slice none 0 0] 24)
 have py := ((Zr.new (w.alloc (.cells #[.bool n1, .slice A xs.length c] 24)) 24 (.bool n2) (.slice B ys.length d)).alloc (.cells #[.bool false, .slice none 0 0] 24)).alloc (.cells #[.bool false, .slice none 0 0] 24)
 have pq := (Zr.new ((w.alloc (.cells #[.bool n1, .slice A xs.length c] 24)).alloc (.cells #[.bool n2, .slice B ys.length d] 24)) 24 (.bool false) (.slice none 0 0)).alloc (.cells #[.bool false, .slice none 0 0] 24)
 have pr := Zr.new (((w.alloc (.cells #[.bool n1, .slice A xs.length c] 24)).alloc (.cells #[.bool n2, .slice B ys.length d] 24)).alloc (.cells #[.bool false, .slice none 0 0] 24)) 24 (.bool false) (.slice none 0 0)
 have rx := ((((h.alloc (.cells #[.bool n1, .slice A xs.length c] 24)).alloc (.cells #[.bool n2, .slice B ys.length d] 24)).alloc (.cells #[.bool false, .slice none 0 0] 24)).alloc (.cells #[.bool false, .slice none 0 0] 24))
 have ry := ((((g.alloc (.cells #[.bool n1, .slice A xs.length c] 24)).alloc (.cells #[.bool n2, .slice B ys.length d] 24)).alloc (.cells #[.bool false, .slice none 0 0] 24)).alloc (.cells #[.bool false, .slice none 0 0] 24))
 have b0 := ((((Below.refl w.heap.size w).alloc (Nat.le_refl _) (.cells #[.bool n1, .slice A xs.length c] 24)).alloc (by simp) (.cells #[.bool n2, .slice B ys.length d] 24)).alloc (by simp; omega) (.cells #[.bool false, .slice none 0 0] 24)).alloc (by simp; omega) (.cells #[.bool false, .slice none 0 0] 24)
 simp only [World.size_alloc] at py pq pr
 clear h g
 go_enter Tryz.func181, Tryz.ntmps181
 go_wp2_with fail
 obtain ⟨W, E⟩ : ∃ W, W = ((((w.alloc (.cells #[.bool n1, .slice A xs.length c] 24)).alloc (.cells #[.bool n2, .slice B ys.length d] 24)).alloc (.cells #[.bool false, .slice none 0 0] 24)).alloc (.cells #[.bool false, .slice none 0 0] 24)) := ⟨_, rfl⟩
 rw [<- E] at px py pq pr b0 rx ry ⊢
 have hsz : W.heap.size = w.heap.size + 4 := by rw [E]; simp
 clear E
 have PX := Hd px
 have PY := Hd py
 have PQ := Hd pq
 have PR := Hd pr
 have B0 := Hd b0
 have RX := Hd rx
 have RY := Hd ry
 obtain ⟨l1, x0, x1, -, -⟩ := px.facts
 obtain ⟨l2, y0, y1, -, -⟩ := py.facts
 clear px py pq pr rx ry b0
 refine (Xi A B c d xs ys hcx hcy (by omega) (by omega) W RX.out RY.out).mono ?_
 rintro e wz ⟨kz, rfl, hk, hbz⟩
 have hk2 := hk.1 hle
 have hdk : decide (kz < 0) = false := by simp; omega
 obtain ⟨-, xz0, xz1, -, -⟩ := (PX.out.below hbz).facts
 obtain ⟨-, yz0, yz1, -, -⟩ := (PY.out.below hbz).facts
 have B1 := Hd (Zb B0.out hbz)
 have PX1 := Hd (PX.out.below hbz)
 have PY1 := Hd (PY.out.below hbz)
 have PQ1 := Hd (PQ.out.below hbz)
 have PR1 := Hd (PR.out.below hbz)
 have RX1 := Hd (RX.out.below hbz)
 have RY1 := Hd (RY.out.below hbz)
 have hz1 := hbz.size
 have hl1 := HL1.out
 have h0 : JU ys 0 ≠ 0 := by
   rw [Yk (by omega)]
   exact hcy _ (Y5 hl1)
 have hyv : val ys = JU ys 0 := by
   match ys, hl1 with
   | [y], _ => simp [val, JU]
 have hxne : xs ≠ [] := by
   rintro rfl
   rw [hyv] at hle
   simp [val] at hle
   exact h0 hle
 obtain ⟨ad, rfl, hbl, hcy0⟩ := RY1.out.reads.get (k := 0) (by omega)
 have hcy1 : wz.cell? ad = some (.int .u32 ((JU ys 0 : Nat) : Int)) := by
   rw [Yk (by omega)]
   simpa [Addr.add] using hcy0
 have hy2 := JQ RY1.out.limbs 0
 have C1 := Hd (JA A c xs (by omega) wz RX1.out)
 have hbn : ((1 : Int) == 1) = true := rfl
 have HYV := Hd hyv
 rw [hl1]
 generalize JU ys 0 = y at h0 hcy1 hy2 HYV
 clear hk hk2 hbz l1 x0 x1 l2 y0 y1 PX PY RX RY B0 PQ PR hcy0 hyv hbn
 go_wp2_with fail
 refine C1.out.mono ?_
 rintro e w1 ⟨v, rfl, hv, hb1⟩
 obtain ⟨gl, cl, rfl, hgl, hcl, hfr⟩ := hv.front hxne
 have hcy2 : w1.cell? ad = some (.int .u32 (y : Int)) := (hb1.cell hbl).trans hcy1
 obtain ⟨-, yw0, yw1, -, -⟩ := (PY1.out.below hb1).facts
 have C2 := Hd (exact_short gl cl cl y xs (by omega) hy2 hv.limbs (by omega) w1 hfr)
 have hadl : ad.block < w1.heap.size := Nat.lt_of_lt_of_le hbl hb1.size
 clear hv hcy1 yz0 yz1 xz0 xz1 C1 hfr
 go_wp2_with fail
 refine C2.out.mono ?_
 rintro e V ⟨rfl, zq, hlq, hzq, hvq, hfq, hgr⟩
 have hb : Below wz.heap.size wz V := hb1.grown hgr hb1.size (fun k hk => by injection hk with hk; rw [<- hk]; exact hgl)
 have PX2 := Hd (PX1.out.below hb)
 have PY2 := Hd (PY1.out.below hb)
 have PQ2 := Hd (PQ1.out.below hb)
 have PR2 := Hd (PR1.out.below hb)
 have B2 := Hd (Zb B1.out hb)
 have hgV := hfq.lt
 have IQ := Hd (Zc.sv (neg := n1 != n2) hzq (by have := hfq.own hgl (Nat.le_refl _) hcl; rwa [List.take_length] at this) hfq.fits hcl)
 have e1 : Zv (n1 != n2) zq = Zv (n1 != n2) (Za (val xs / val ys)) := by unfold Zv; rw [Zi, hvq, HYV.out]
 rw [e1] at IQ
 have HBQ := Hd (fun g h => sv_blk (neg := n1 != n2) (a := ⟨gl, 0, none⟩) (c := cl) (zs := zq) (g := g) h)
 have C3 := Hd (fun (V' : World) (hV : Below V.heap.size V V') => Xj (n1 != n2) (some ⟨gl, 0, none⟩) cl zq V' ((hfq.below hV).raw hcl hzq))
 obtain ⟨b1, A1, k1, c1, hs1⟩ := sv_form (n1 != n2) (some ⟨gl, 0, none⟩) cl zq
 rw [hs1] at C3 IQ HBQ
 rw [<- hlq]
 have hrl : val xs % y < y := Nat.mod_lt _ (by omega)
 have hrest : val [val xs % y] = val xs % val ys := by rw [HYV.out]; simp [val]
 have HREST := Hd hrest
 generalize val xs % y = rest at hrl HREST
 have hrest2 : (rest : Int) < 4294967296 := by omega
 have hlimb : Zj [rest] := by intro x hx; simp at hx; omega
 have e2 : Zv n1 [rest] = Zv n1 (Za (val xs % val ys)) := by unfold Zv; rw [Zi, HREST.out]
 have HLIMB := Hd hlimb
 have HE2 := Hd e2
 have C4 := Hd (fun (V' : World) (g : Nat) (hr : YJ V' g [rest]) => Xj n1 (some ⟨g, 0, none⟩) 1 [rest] V' (hr.front.raw (by simp) HLIMB.out))
 clear e1 e2 hs1 hfq hlq hvq hzq hb hgr hb1 PX1 PY1 PQ1 PR1 B1 C2 RX1 RY1 hdk yw0 yw1 hcy2 hrest hlimb hbl hadl
 have HW := Hd (Below.refl V.heap.size V)
 have hg1 : w.heap.size + 1 + 1 < wz.heap.size := by omega
 have hg2 : w.heap.size + 1 + 1 + 1 < wz.heap.size := by omega
 have hwV : wz.heap.size <= V.heap.size := by have := B2.out.size; omega
 go_wp2_with fail
 refine YS [.val (.pointer (some ⟨w.heap.size, 0, none⟩)), .val (.bool n1), .val (.pointer (some ⟨w.heap.size + 1, 0, none⟩)), .val (.bool n2), .val (.bool (n1 != n2)), .val (.slice (some ⟨gl, 0, none⟩) zq.length cl), .val (.agg #[.bool b1, .slice A1 k1 c1]), .val (.pointer (some ⟨w.heap.size, 0, none⟩)), .val (.bool n1), .val (.int .u32 (rest : Int)), .step, .step, .step, .step] 2 4 V
   (fun us V' => match us with
     | [] => True
     | [u] => ∃ g, u = .slice (some ⟨g, 0, none⟩) 1 1 /\ V.heap.size <= g /\ YJ V' g [rest]
     | [_, u] => Zc V' V.heap.size u (Zv n1 (Za (val xs % val ys)))
     | _ => False)
   (fun us V' => match us with
     | [_, u, _] => AggBool u /\ Jf w V' wz.heap.size (w.heap.size + 1 + 1) (w.heap.size + 1 + 1 + 1) (.agg #[.bool b1, .slice A1 k1 c1]) (Zv (n1 != n2) (Za (val xs / val ys))) u (Zv n1 (Za (val xs % val ys))) b1 (.slice A1 k1 c1) false (.slice none 0 0)
     | [_, u, _, _] => Stored2 w V' wz.heap.size (w.heap.size + 1 + 1) (w.heap.size + 1 + 1 + 1) (.agg #[.bool b1, .slice A1 k1 c1]) (Zv (n1 != n2) (Za (val xs / val ys))) u (Zv n1 (Za (val xs % val ys))) b1 (.slice A1 k1 c1)
     | _ => False)
   _ Zf ?_ ?_ ?_ ?_ ?_ ?_ ?_ ?_ ?_ rfl ?_ HW.out trivial ?_ ?_ ?_
 iterate 9 kernel_rfl
 . intro us V1 V2 hg hb
   match us, hg with
   | [], _ => trivial
   | [u], ⟨g, h1, h2, h3⟩ => exact ⟨g, h1, h2, h3.below hb⟩
   | [_, u], hg => exact hg.below hb
 . simp [XD, ZO, ZF, Zn, Yc]
   repeat' apply And.intro
   all_goals
     intro V' hV
     obtain ⟨-, e0, e1, -, -⟩ := (PX2.out.below hV).facts
     obtain ⟨-, f0, f1, -, -⟩ := (PY2.out.below hV).facts
     have HV := Hd hV
     clear hV
     go_simp
     first
     | exact Below.refl _ _
     | exact ⟨by cases n1 <;> cases n2 <;> rfl, Below.refl _ _⟩
     | (with_reducible refine (C3.out V' HV.out).mono ?_; rintro e w' ⟨rfl, hb⟩; exact ⟨rfl, hb⟩)
 . simp [Y1, ZO, ZF, Zn, Yc, Yp, List.filter, Ks.isStep]
   refine ⟨fun V' hV => ?_, fun va => ⟨fun V' hV g h1 h2 h3 => ?_, fun vb => ⟨fun V' hV hI => ?_, fun V' h1 hst => ?_⟩⟩⟩
   . have HV := Hd hV
     have hsz2 := hV.size
     clear hV
     go_simp
     exact ⟨HV.out.alloc hsz2 _, ⟨ZJ.new V' _ _⟩⟩
   . have C5 := C4.out V' g h3
     obtain ⟨b2, A2, k2, c2, hs2⟩ := sv_form n1 (some ⟨g, 0, none⟩) 1 [rest]
     have I2 := Hd (Zc.sv (neg := n1) (c := 1) HLIMB.out (by have := h3.front.own h2 (Nat.le_refl _) (by simp); rwa [List.take_length] at this) (Nat.le_refl _) (by simp))
     rw [hs2] at C5 I2
     rw [HE2.out] at I2
     have H5 := Hd C5
     have HV := Hd hV
     clear hV C5 h3 hs2
     subst h1
     go_simp
     refine H5.out.mono ?_
     rintro e w' ⟨rfl, hb⟩
     exact ⟨Zb HV.out hb, I2.out.below hb⟩
   . obtain ⟨A2, c2, hform, -, -, hown⟩ := hI.form
     have st : Jf w V' wz.heap.size (w.heap.size + 1 + 1) (w.heap.size + 1 + 1 + 1) (.agg #[.bool b1, .slice A1 k1 c1]) (Zv (n1 != n2) (Za (val xs / val ys))) vb (Zv n1 (Za (val xs % val ys))) false (.slice none 0 0) false (.slice none 0 0) :=
       ⟨⟨IQ.out.below hV, hI.base hwV, fun g h1 h2 => by
         have e := HBQ.out g h1
         rw [hform] at h2
         have h3 := (hown.lt g h2).1
         have e2 : gl = g := e
         omega⟩, PQ2.out.below hV, PR2.out.below hV, Zb B2.out hV⟩
     obtain ⟨q1, q2, q3, q4, q5⟩ := st.pq.facts
     have S := Hd (st.one hg1 (by omega) (by omega) b1 (.slice A1 k1 c1))
     have HF2 : AggBool vb := ⟨_, _, _, _, hform⟩
     clear st hown hI hV
     subst hform
     go_simp
     exact S.out
   . obtain ⟨b2, A2, k2, c2, rfl⟩ := h1
     obtain ⟨q1, q2, q3, q4, q5⟩ := hst.pr.facts
     have S := Hd (hst.two hg2 (by omega) (by omega) b2 (.slice A2 k2 c2))
     clear hst
     go_simp
     exact ⟨_, _, rfl, S.out⟩
 . intro us V' hus hF
   obtain ⟨u0, u1, u2, u3, rfl⟩ : ∃ u0 u1 u2 u3, us = [u0, u1, u2, u3] := by
     match us, hus with
     | [u0, u1, u2, u3], _ => exact ⟨u0, u1, u2, u3, rfl⟩
   simp only [show ¬ (4 <= 2) by decide, if_false] at hF
   obtain ⟨b2, s2, rfl, hF⟩ := hF.ex
   simp [ZO, ZF, Zn, Yc, Yp, List.filter, Ks.isStep]
   obtain ⟨_, k0, k1, _, _⟩ := hF.pq.facts
   obtain ⟨_, k2, k3, _, _⟩ := hF.pr.facts
   have HF := Hd hF
   clear hF PX2 PY2
   go_wp2_with fail
   exact bodyPost_ret (by simp [results, Tryz.results181, go_sem, k0, k1, k2, k3]) rfl ⟨_, _, rfl, HF.out.ints.base (by omega), HF.out.low⟩

theorem quo_val (n1 n2 : Bool) (xs ys : List Nat) : Zv (n1 != n2) (Za (val xs / val ys)) = (Zv n1 xs).tdiv (Zv n2 ys) /\ Zv n1 (Za (val xs % val ys)) = (Zv n1 xs).tmod (Zv n2 ys) := by
 unfold Zv
 rw [Zi, Zi]
 have e1 : ((val xs % val ys : Nat) : Int) = (val xs : Int).tmod (val ys : Int) := by rw [Int.ofNat_tmod]
 rw [e1]
 cases n1 <;> cases n2 <;> simp [Int.neg_tdiv, Int.tdiv_neg, Int.neg_tmod, Int.tmod_neg]
theorem exact_Divide (n1 n2 : Bool) (A B : Option Addr) (c d : Nat) (xs ys : List Nat) (hcx : ZU xs) (hcy : ZU ys) (hne : ys ≠ []) (hlx : xs.length <= 536870912) (hly : ys.length <= 536870912) (w : World) (h : Zm w A c xs) (g : Zm w B d ys) :
   Calls Tryz.prog 181 #[.agg #[.bool n1, .slice A xs.length c], .agg #[.bool n2, .slice B ys.length d]] w (RetTwo w.heap.size w ((Zv n1 xs).tdiv (Zv n2 ys)) ((Zv n1 xs).tmod (Zv n2 ys))) := by
 rw [<- (quo_val n1 n2 xs ys).1, <- (quo_val n1 n2 xs ys).2]
 rcases Nat.lt_or_ge (val xs) (val ys) with hlt | hle
 . have e1 : Zv (n1 != n2) (Za (val xs / val ys)) = 0 := by
     rw [Nat.div_eq_of_lt hlt]; unfold Zv; rw [Zi]; cases n1 <;> cases n2 <;> rfl
   have e2 : Zv n1 (Za (val xs % val ys)) = Zv n1 xs := by
     rw [Nat.mod_eq_of_lt hlt]; unfold Zv; rw [Zi]
   rw [e1, e2]
   exact exact_Divide_less n1 n2 A B c d xs ys hcx hcy hlt hlx hly w h g
 . have h1 : 1 <= ys.length := by
     rcases Nat.eq_zero_or_pos ys.length with h0 | h0
     . exact absurd (List.eq_nil_of_length_eq_zero h0) hne
     . exact h0
   rcases Nat.lt_or_ge 1 ys.length with h2 | h2
   . exact exact_Divide_many n1 n2 A B c d xs ys hcx hcy hle h2 hlx hly w h g
   . exact exact_Divide_one n1 n2 A B c d xs ys hcx hcy hle (by omega) hlx hly w h g

theorem intInfo : (Tryz.prog.info? 24).map (·.size) = some 2 := by kernel_rfl
theorem Zc.kept {B : Nat} {Ts : List TypeId} {w w' : World} {base : Nat} {v : Value} {x : Int} (h : Zc w base v x) (k : Zu B Ts w w') (hT : 109 ∉ Ts) : Zc w' base v x := by
 obtain ⟨A, c, h1, h2, h3, h4⟩ := h.form
 exact ⟨A, c, h1, h2, h3, k.own h4 hT⟩
theorem Yx.kept {B : Nat} {Ts : List TypeId} {w w' : World} {base n : Nat} {v : Value} (h : Yx w base v n) (k : Zu B Ts w w') (hT : 109 ∉ Ts) : Yx w' base v n := by
 obtain ⟨A, c, h1, h2, h3, h4⟩ := h.form
 exact ⟨A, c, h1, h2, h3, k.own h4 hT⟩
theorem OwnX.kept {B : Nat} {Ts : List TypeId} {w w' : World} {base : Nat} {v : Value} {zs : List Nat} (h : OwnX w base v zs) (k : Zu B Ts w w') (hT : 109 ∉ Ts) : OwnX w' base v zs := by
 obtain ⟨A, c, h1, h2, h3, h4⟩ := h.form
 exact ⟨h.limbs, A, c, h1, h2, h3, k.own h4 hT⟩
theorem OwnX.raw {w : World} {base c : Nat} {A : Option Addr} {zs : List Nat} (h : OwnX w base (.slice A zs.length c) zs) : Zm w A c zs := by
 obtain ⟨A', c', h1, h2, h3, h4⟩ := h.form
 injection h1 with a1 a2 a3
 subst a1 a3
 exact ⟨h.limbs, h2, h3, ZD.of_own h4⟩
theorem Zc.cells {w : World} {base : Nat} {v : Value} {x : Int} (h : Zc w base v x) : JT v 2 := by
 obtain ⟨A, c, rfl, -⟩ := h.form
 exact ⟨rfl, by simp [Value.cells, Value.oneCell']⟩
def X6 (v : Value) (g : Nat) : Prop := blkOf v = some g
def RetBoth (base : Nat) (w : World) (z1 z2 : Int) (e : Ending) (w' : World) : Prop := ∃ v1 v2, e = .returned (.tuple #[v1, v2]) /\ Zc w' base v1 z1 /\ Zc w' base v2 z2 /\ Below w.heap.size w w'
theorem allocInt {o : Oper} (h : o.op = .alloc 24) : AllocF Tryz.prog o 24 2 := by
 refine ⟨#[.bool false, .slice none 0 0], rfl, fun ρ w => ?_⟩
 unfold execOp
 rw [h]
 kernel_rfl
theorem Zc.nat {w : World} {base n : Nat} {v : Value} (h : Zc w base v (n : Int)) : ∃ A c, v = .agg #[.bool false, .slice A (Za n).length c] /\ Yx w base (.slice A (Za n).length c) n := by
 obtain ⟨A, c, h1, h2, h3, h4⟩ := h.form
 have e : decide ((n : Int) < 0) = false := by simp
 rw [e] at h1
 simp only [Int.natAbs_natCast] at h1 h2 h3 h4
 exact ⟨A, c, h1, A, c, rfl, h2, h3, h4⟩
theorem Yx.int {w : World} {base n c : Nat} {A : Option Addr} (h : Yx w base (.slice A (Za n).length c) n) : Zc w base (.agg #[.bool false, .slice A (Za n).length c]) (n : Int) := by
 obtain ⟨A', c', h1, h2, h3, h4⟩ := h.form
 injection h1 with a1 a2 a3
 subst a1 a3
 have e : decide ((n : Int) < 0) = false := by simp
 exact ⟨A, c, by rw [e]; rfl, h2, h3, h4⟩
theorem Zr.size {w : World} {g : Nat} {t : TypeId} {a b : Value} (h : Zr w g t a b) : g < w.heap.size := h.blk.lt
theorem Zc.shape {w : World} {base : Nat} {v : Value} {x : Int} (h : Zc w base v x) : ∃ b A k c, v = .agg #[.bool b, .slice A k c] := by
 obtain ⟨A, c, h1, -⟩ := h.form
 exact ⟨_, _, _, _, h1⟩
theorem Yx.pair {w : World} {base n g : Nat} {v a b : Value} (h : Yx w base v n) (p : Zr w g 24 a b) (x y : Value) : Yx ((w.setCell ⟨g, 0, none⟩ x).setCell ⟨g, 1, none⟩ y) base v n := by
 obtain ⟨A, c, h1, h2, h3, h4⟩ := h.form
 exact ⟨A, c, h1, h2, h3, own_pair h4 (Xb h4 p.blk (by decide))⟩

theorem YJ.rawN {w : World} {g : Nat} {zs : List Nat} (h : YJ w g zs) (hz : Zj zs) (hm : zs.length <= 9223372036854775807) : Zm w (some ⟨g, 0, none⟩) zs.length (Za (val zs)) :=
 ⟨Yt _, YB hz, hm, by have := h.reads.take (Za (val zs)).length; rwa [<- Y3 hz] at this⟩

theorem ref_times (A : Option Addr) (c n : Nat) (xs : List Nat) (hn : n < 4294967296) (hlx : xs.length <= 536870912) (w : World) (h : Zm w A c xs) :
  Calls Tryz.prog 230 #[.slice A xs.length c, .int .u32 n] w (RetN w.heap.size w (val xs * n)) := by
 have hr : YJ (w.alloc (.cells #[.int .u32 n] 109)) w.heap.size [n] := ⟨ZJ.new w _ _⟩
 have hl : Zj [n] := by intro x hx; simp at hx; omega
 have hv : val [n] = n := by simp [val]
 have C1 := Hd (Xo (some ⟨w.heap.size, 0, none⟩) 1 [n] hl (by simp) (by omega) _ (w.alloc (.cells #[.int .u32 n] 109)) hr.reads)
 have hraw := hr.rawN hl (by simp)
 rw [hv] at hraw
 have C2 := ref_mulN A (some ⟨w.heap.size, 0, none⟩) c 1 xs (Za n) hlx (by have := YB hl; rw [hv] at this; simp at this; omega) (w.alloc (.cells #[.int .u32 n] 109)) (h.alloc _) hraw
 rw [Zi] at C2
 have H2 := Hd C2
 rw [hv] at C1
 have hB := Hd ((Below.refl w.heap.size w).alloc (Nat.le_refl _) (.cells #[.int .u32 n] 109))
 clear hr hl hv hraw C2 h
 go_enter Tryz.func230, Tryz.ntmps230
 go_wp2_with fail
 refine C1.out.mono ?_
 rintro e w1 ⟨rfl, rfl⟩
 go_wp2_with fail
 refine H2.out.mono ?_
 rintro e w2 ⟨v, rfl, hv, hb⟩
 have HV := Hd (hv.base (b' := w.heap.size) (by simp))
 have HB := Hd (hB.out.trans (hb.mono (by simp)))
 clear hv hb C1 H2 hB
 go_wp2_with fail
 go_ret
 exact ⟨_, rfl, HV.out, HB.out⟩

theorem ref_fitting (A B : Option Addr) (c d : Nat) (xs ys : List Nat) (hcx : ZU xs) (hly : ys.length <= 536870912) (hy : 0 < val ys) (hq : val xs / val ys < 4294967296) (w : World) (h : Zm w A c xs) (g : Zm w B d ys) :
  Calls Tryz.prog 281 #[.slice A xs.length c, .slice B ys.length d] w fun e w' => e = .returned (.int .u32 ((val xs / val ys : Nat) : Int)) /\ Below w.heap.size w w' := by
 have RX := Hd h
 have RY := Hd g
 have HC := Hd hcx
 have HY := Hd hy
 obtain ⟨q, hqe⟩ : ∃ q, q = val xs / val ys := ⟨_, rfl⟩
 rw [<- hqe] at hq
 rw [<- hqe]
 have HQ := Hd hqe
 have hqi : (q : Int) < 4294967296 := by omega
 have B0 := Hd (Below.refl w.heap.size w)
 clear h g hcx hy hqe
 go_enter Tryz.func281, Tryz.ntmps281
 go_wp2_with fail
 go_loopw [5, 6] (fun v5 v6 wr => ∃ l h : Nat, v5 = .int .u64 l /\ v6 = .int .u64 h /\ l <= q /\ q <= h /\ h <= 4294967295 /\ Hid (Below w.heap.size w wr)) (fun v5 v6 _ => (intOf v6).toNat - (intOf v5).toNat)
 case atStart => exact ⟨0, 4294967295, rfl, rfl, Nat.zero_le _, by omega, Nat.le_refl _, B0⟩
 case round =>
  obtain ⟨l, h, rfl, rfl, h1, h2, h3, HB⟩ := hrel
  clear B0
  by_cases hlt : l < h
  . obtain ⟨m, hm⟩ : ∃ m : Nat, m = (l + h + 1) / 2 := ⟨_, rfl⟩
    have hmi : ((l : Int) + (h : Int) + 1) / 2 = (m : Int) := by omega
    have m1 : l < m := by omega
    have m2 : m <= h := by omega
    have m3 : (m : Int) < 4294967296 := by omega
    have hlt2 : (l : Int) < (h : Int) := by omega
    clear hm
    have C1 := Hd (ref_times B d m ys (by omega) hly wr (RY.out.below HB.out))
    go_wp2_with fail
    refine C1.out.mono ?_
    rintro e w1 ⟨v, rfl, hv, hb⟩
    obtain ⟨A1, c1, rfl, r1⟩ := hv.raw
    have hb1 := Zb HB.out hb
    have C2 := Hd (Jn A1 A c1 c (Za (val ys * m)) xs (ZB _) HC.out w1 r1 (RX.out.below hb1))
    have HB1 := Hd hb1
    have hz : val ys * m <= val xs ↔ m <= q := by rw [HQ.out, Nat.le_div_iff_mul_le HY.out, Nat.mul_comm]
    have HZ := Hd hz
    clear C1 hv r1 hb hb1 hz
    go_wp2_with fail
    refine C2.out.mono ?_
    rintro e w2 ⟨rfl, hb2⟩
    have HB2 := Hd (Zb HB1.out hb2)
    obtain ⟨z, hze⟩ : ∃ z, z = YE (val (Za (val ys * m))) (val xs) := ⟨_, rfl⟩
    rw [<- hze]
    have hz2 : m <= q ↔ z <= 0 := by
      rw [<- HZ.out, hze, Zi]
      unfold YE
      split <;> (try split) <;> omega
    clear hze hb2 C2 HB1
    by_cases hmq : m <= q
    . have hd : decide (z <= 0) = true := by simp; omega
      clear hz2
      go_wp2_with fail
      go_roundw
      case rel => exact ⟨m, h, rfl, rfl, hmq, h2, h3, HB2⟩
      case measure => simp [intOf]; omega
    . have hd : decide (z <= 0) = false := by simp; omega
      have hm1 : (m : Int) - 1 = ((m - 1 : Nat) : Int) := by omega
      clear hz2
      go_wp2_with fail
      go_roundw
      case rel => exact ⟨l, m - 1, rfl, rfl, h1, by omega, by omega, HB2⟩
      case measure => simp [intOf]; omega
  . obtain rfl : l = q := by omega
    have hge : (h : Int) <= (l : Int) := by omega
    go_wp2_with fail
    go_ret
    exact ⟨rfl, HB.out⟩

theorem ref_half (A : Option Addr) (c : Nat) (xs : List Nat) (hl : xs.length <= 1073741824) (w : World) (h : Zm w A c xs) :
  Calls Tryz.prog 277 #[.slice A xs.length c] w (RetN w.heap.size w (val xs / 2)) := by
 have C1 := Hd (ref_short A c 2 xs (by omega) (by omega) hl w h)
 clear h
 go_enter Tryz.func277, Tryz.ntmps277
 go_wp2_with fail
 refine C1.out.mono ?_
 rintro e w1 ⟨v, rfl, hv, hb⟩
 have HV := Hd hv
 have HB := Hd hb
 clear hv hb C1
 go_wp2_with fail
 go_ret
 exact ⟨_, rfl, HV.out, HB.out⟩

theorem val_even {xs : List Nat} (h : 0 < xs.length) : val xs % 2 = xs[0] % 2 := by
 cases xs with
 | nil => simp at h
 | cons x xs => simp only [val, List.getElem_cons_zero]; omega
theorem ref_even (A : Option Addr) (c : Nat) (xs : List Nat) (h0 : 0 < xs.length) (w : World) (h : Zm w A c xs) (b : Bool) (hb : b = (val xs % 2 == 0)) :
  Calls Tryz.prog 276 #[.slice A xs.length c] w fun e w' => e = .returned (.bool b) /\ w = w' := by
 obtain ⟨ad, rfl, hbl, hx⟩ := h.reads.get h0
 have hbx := Zs h.limbs h0
 rw [val_even h0] at hb
 have HB := Hd hb
 generalize xs[0] = x at hx hbx HB
 have hi : (0 : Int) < (xs.length : Int) := by omega
 simp [Addr.add] at hx
 clear h hb hbl
 go_enter Tryz.func276, Tryz.ntmps276
 go_wp2_with fail
 go_ret
 refine ⟨?_, rfl⟩
 have e : ((x : Int) % 2 == 0) = b := by rw [HB.out, Bool.eq_iff_iff]; simp; omega
 rw [e]; rfl

def RetNN (base : Nat) (w : World) (n1 n2 : Nat) (e : Ending) (w' : World) : Prop := ∃ v1 v2, e = .returned (.tuple #[v1, v2]) /\ Yx w' base v1 n1 /\ Yx w' base v2 n2 /\ Below w.heap.size w w'

theorem below_append {w w' : World} {o : Obj} (h : (w.alloc o).grownBy w' none) : Below w.heap.size w w' :=
 ((Below.refl w.heap.size w).alloc (Nat.le_refl _) o).grown h (by simp) (fun _ hk => by cases hk)
theorem own_setFar {w : World} {base : Nat} {e : TypeId} {size n g k : Nat} {v : Value} {xs : List Value} (h : w.ownsRow base e size v n xs) (hg : g < base) (u : Value) : (w.setCell ⟨g, k, none⟩ u).ownsRow base e size v n xs := by
 refine ⟨h.1, ?_⟩
 rcases h.2 with h2 | ⟨b, cap, cur, h1, h2, h3, h4⟩
 . exact .inl h2
 . exact .inr ⟨b, cap, cur, h1, h2, (ZJ.far (t := e) h3 (p := ⟨g, k, none⟩) (show b ≠ g by omega) u), h4⟩
theorem Yx.far {w : World} {base n g k : Nat} {v : Value} (h : Yx w base v n) (hg : g < base) (u : Value) : Yx (w.setCell ⟨g, k, none⟩ u) base v n := by
 obtain ⟨A, c, h1, h2, h3, h4⟩ := h.form
 exact ⟨A, c, h1, h2, h3, own_setFar h4 hg u⟩

structure RDiv (w wr : World) (g : Nat) (xs ys : List Nat) (v : Value) (k R : Nat) (zs : List Nat) : Prop where
 len : zs.length = xs.length
 limbs : Zj zs
 row : YJ wr g zs
 low : Below w.heap.size w wr
 own : Yx wr (g + 1) v R
 eq : val (zs.drop k) * val ys + R = val (xs.drop k)
 lt : R < val ys
 nought : ∀ j, j < k -> JU zs j = 0
theorem RDiv.skip {w wr wr' : World} {g : Nat} {xs ys : List Nat} {v v' : Value} {k R : Nat} {zs : List Nat} (h : RDiv w wr g xs ys v (k + 1) R zs) (hk : k < xs.length) (hrow : YJ wr' g zs) (hlow : Below w.heap.size w wr') (hown : Yx wr' (g + 1) v' (xs[k] + 4294967296 * R)) (hlt : xs[k] + 4294967296 * R < val ys) :
  RDiv w wr' g xs ys v' k (xs[k] + 4294967296 * R) zs := by
 have hk2 : k < zs.length := by rw [h.len]; exact hk
 have h0 : zs[k] = 0 := by rw [<- Yk hk2]; exact h.nought k (Nat.lt_succ_self _)
 refine ⟨h.len, h.limbs, hrow, hlow, hown, ?_, hlt, fun j hj => h.nought j (by omega)⟩
 rw [Yz hk2, Yz hk, h0, <- h.eq, Nat.zero_add, Nat.mul_add, Nat.mul_assoc]
 omega
theorem RDiv.take {w wr wr' : World} {g : Nat} {xs ys : List Nat} {v v' : Value} {k R q : Nat} {zs : List Nat} (h : RDiv w wr g xs ys v (k + 1) R zs) (hk : k < xs.length) (hq : q = (xs[k] + 4294967296 * R) / val ys) (hq2 : q < 4294967296) (hrow : YJ wr' g (zs.set k q)) (hlow : Below w.heap.size w wr') (hown : Yx wr' (g + 1) v' (xs[k] + 4294967296 * R - val ys * q)) :
   RDiv w wr' g xs ys v' k (xs[k] + 4294967296 * R - val ys * q) (zs.set k q) := by
 have hk2 : k < zs.length := by rw [h.len]; exact hk
 have hY : 0 < val ys := by have := h.lt; omega
 have hd := Nat.div_add_mod (xs[k] + 4294967296 * R) (val ys)
 have hm := Nat.mod_lt (xs[k] + 4294967296 * R) hY
 rw [<- hq] at hd
 refine ⟨by rw [List.length_set]; exact h.len, Yn h.limbs hq2, hrow, hlow, hown, ?_, by omega, fun j hj => ?_⟩
 . rw [Jz hk2, Yz hk, <- h.eq, Nat.add_mul, Nat.mul_assoc 4294967296, Nat.mul_add, Nat.mul_comm q]
   omega
 . rw [at0_set_ne (by omega)]; exact h.nought j (by omega)
theorem RDiv.stop {w wr : World} {g : Nat} {xs ys : List Nat} {v : Value} {R : Nat} {zs : List Nat} (h : RDiv w wr g xs ys v 0 R zs) : val zs = val xs / val ys /\ R = val xs % val ys := by
 have e := h.eq
 have hl := h.lt
 simp only [List.drop_zero] at e
 have hY : 0 < val ys := by omega
 rw [<- e]
 constructor
 . rw [Nat.add_comm, Nat.add_mul_div_right _ _ hY, Nat.div_eq_of_lt hl, Nat.zero_add]
 . rw [Nat.mul_add_mod_self_right, Nat.mod_eq_of_lt hl]

theorem fit_lt {x R Y : Nat} (hx : x < 4294967296) (hR : R < Y) : (x + 4294967296 * R) / Y < 4294967296 := by
 rw [Nat.div_lt_iff_lt_mul (by omega)]
 have := Nat.mul_le_mul_left 4294967296 (show R + 1 <= Y from hR)
 omega

theorem ref_divide_one (A B : Option Addr) (c d : Nat) (xs ys : List Nat) (hcy : ZU ys) (hyl : ys.length = 1) (hl : xs.length <= 1073741824) (w : World) (h : Zm w A c xs) (g : Zm w B d ys) :
  Calls Tryz.prog 262 #[.slice A xs.length c, .slice B ys.length d] w (RetNN w.heap.size w (val xs / val ys) (val xs % val ys)) := by
 have h0 : ys[0] ≠ 0 := hcy _ (Y5 hyl)
 have hyv : val ys = ys[0] := by
  match ys, hyl with
  | [y], _ => simp [val]
 obtain ⟨ad, rfl, hbl, hy⟩ := g.reads.get (k := 0) (by omega)
 have hby := Zs g.limbs (k := 0) (by omega)
 rw [hyv]
 generalize ys[0] = y at h0 hy hby
 simp [Addr.add] at hy
 have C1 := Hd (ref_short A c y xs (by omega) hby hl w h)
 have hrl : val xs % y < 4294967296 := Nat.lt_trans (Nat.mod_lt _ (by omega)) hby
 generalize val xs % y = r at hrl C1
 rw [hyl]
 clear h g hyv hyl hcy h0
 go_enter Tryz.func262, Tryz.ntmps262
 go_wp2_with fail
 refine C1.out.mono ?_
 rintro e w1 ⟨v, rfl, hv, hb⟩
 have hr : YJ (w1.alloc (.cells #[.int .u32 r] 109)) w1.heap.size [r] := ⟨ZJ.new w1 _ _⟩
 have hl2 : Zj [r] := by intro x hx; simp at hx; omega
 have hv2 : val [r] = r := by simp [val]
 have C2 := Hd (Xo (some ⟨w1.heap.size, 0, none⟩) 1 [r] hl2 (by simp) (by omega) _ (w1.alloc (.cells #[.int .u32 r] 109)) hr.reads)
 have HO := Hd (Yx.of_ownL (by have := hr.ownL_cut (base := w.heap.size) hb.size (by simp) hl2; rwa [hv2] at this))
 rw [hv2] at C2
 have HV := Hd (hv.below ((Below.refl w1.heap.size w1).alloc (Nat.le_refl _) (.cells #[.int .u32 r] 109)))
 have HB := Hd (hb.alloc hb.size (.cells #[.int .u32 r] 109))
 clear hr hl2 hv2 hv hb C1 hy hbl
 go_wp2_with fail
 refine C2.out.mono ?_
 rintro e w2 ⟨rfl, rfl⟩
 go_wp2_with fail
 go_ret2
 exact ⟨_, _, rfl, HV.out, HO.out, HB.out⟩

theorem ref_divide_many (A B : Option Addr) (c d : Nat) (xs ys : List Nat) (hcy : ZU ys) (hyl : 2 <= ys.length) (hlx : xs.length <= 536870000) (hly : ys.length <= 536870000) (w : World) (h : Zm w A c xs) (g : Zm w B d ys) :
  Calls Tryz.prog 262 #[.slice A xs.length c, .slice B ys.length d] w (RetNN w.heap.size w (val xs / val ys) (val xs % val ys)) := by
 have HX := Hd h
 have HY := Hd g
 have HC := Hd hcy
 have hc := h.cap
 have hm := h.most
 have hY : 0 < val ys := by
  rcases Nat.eq_zero_or_pos (val ys) with h0 | h0
  . have e := YU g.limbs hcy
    rw [h0] at e
    rw [<- e] at hyl
    simp [Z8] at hyl
  . exact h0
 have hlen1 : ((ys.length : Int) == 1) = false := by simp; omega
 obtain ⟨i0, hi, hz0, hz1, hz2⟩ := info_parts YC
 have hmk : ∀ W : World, (Instr.makeSlice 22 (.int .i64 (xs.length : Int)) (.int .i64 (xs.length : Int))).run Tryz.prog W = .ok (.slice (some ⟨W.heap.size, 0, none⟩) xs.length xs.length) (W.alloc (.cells (madeCells #[.int .u32 0] xs.length) 109)) := fun W => by
  have h := Ye (P := Tryz.prog) 22 109 i0 _ Tryz.underlying22 hi hz0 .i64 .i64 xs.length xs.length (by omega) (by rw [hz2]; omega) (by omega) W
  rw [hz1, Nat.mul_one] at h
  exact h
 have H0 := Hd (⟨0, _, by simp, Yr _, YJ.made w _, (Below.refl _ _).alloc (Nat.le_refl _) _, Yx.nil, by rw [List.drop_of_length_le (by simp), List.drop_length]; simp [val], hY, fun j _ => at0_noughts _ _⟩ : ∃ R zs, RDiv w (w.alloc (.cells (madeCells #[.int .u32 0] xs.length) 109)) w.heap.size xs ys (.slice none 0 0) xs.length R zs)
 have HP := Hd hY
 clear h g hcy hY
 go_enter Tryz.func262, Tryz.ntmps262
 go_wp2_with fail
 clear hmk
 go_loopw [9, 10, 11, 12] (fun v9 v10 v11 v12 wr => ∃ k : Nat, ∃ i : Int, v10 = .int .i64 i /\ i = (k : Int) - 1 /\ k <= xs.length /\ Hid (∃ R zs, RDiv w wr w.heap.size xs ys v9 k R zs)) (fun _ v10 _ _ _ => (intOf v10 + 1).toNat)
 case atStart => exact ⟨xs.length, _, rfl, by omega, Nat.le_refl _, H0⟩
 case round =>
  obtain ⟨k, i, rfl, hik, hk, HR⟩ := hrel
  clear H0
  obtain ⟨R, zs, hs⟩ := HR.out
  have HS := Hd hs
  clear HR hs
  cases k with
  | zero =>
    obtain rfl : i = -1 := by omega
    clear hik
    have htrim := fun V (e : V = wr) => Xo (some ⟨w.heap.size, 0, none⟩) zs.length zs HS.out.limbs (Nat.le_refl _) (by rw [HS.out.len]; omega) V.heap.size V (e ▸ HS.out.row.reads)
    have hown := Yx.of_ownL (HS.out.row.ownL_cut (base := w.heap.size) (Nat.le_refl _) (by rw [HS.out.len]; omega) HS.out.limbs)
    rw [HS.out.len] at htrim hown
    have C := Hd (htrim wr rfl)
    have HO := Hd hown
    have HV := Hd HS.out.stop
    have HO2 := Hd (HS.out.own.base (b' := w.heap.size) (by omega))
    have HB := Hd HS.out.low
    clear hown htrim HS HX HY
    go_wp2_with (first | (go_at_call 228; with_reducible refine C.out.mono ?_; rintro e w' ⟨rfl, rfl⟩))
    go_ret2
    exact ⟨_, _, rfl, by rw [<- HV.out.1]; exact HO.out, by rw [<- HV.out.2]; exact HO2.out, HB.out⟩
  | succ j =>
    obtain rfl : i = (j : Int) := by omega
    clear hik
    have a0 : (0 : Int) <= (j : Int) := by omega
    have a1 : (j : Int) < (xs.length : Int) := by omega
    have hj : j < xs.length := by omega
    obtain ⟨ad, rfl, hbl, hxc⟩ := (HX.out.below HS.out.low).reads.get hj
    have hx := Zs HX.out.limbs hj
    obtain ⟨x, hxe⟩ : ∃ x, xs[j] = x := ⟨_, rfl⟩
    rw [hxe] at hxc hx
    have HXE := Hd hxe
    have hlim := HX.out.below HS.out.low
    obtain ⟨A9, c9, rfl, r9⟩ := HS.out.own.raw
    have hR9 : (Za R).length <= ys.length := ZN.2 (Nat.lt_trans HS.out.lt (Y7 HY.out.limbs))
    have hl0 := HS.out.low.size
    have hrl := HS.out.row.lt
    clear hxe hlim hbl
    go_wp2_with (first
      | (at_builtin; refine Zw _ rfl (.tmp 38) (.tmp 43) _ rfl (w.heap.size + 1) 109 i0 _ 1 4 Tryz.underlying22 hi hz0 hz1 hz2 rfl (by omega) _ 0 [] rfl (World.ownsRow_nil _ _ _ _) _ (some ⟨wr.heap.size, 0, none⟩) 1 1 [.int .u32 (x : Int)] rfl (ZD.new1 wr _ 1 _ rfl) (by simp [Value.oneCell']) (by unfold maxLen; omega) (by omega) (by simp; omega) ?_; intro v1 w1 ho1 hg1 hat1)
      | (at_builtin; refine Zw _ rfl (.tmp 45) (.tmp 46) _ rfl (w.heap.size + 1) 109 i0 _ 1 4 Tryz.underlying22 hi hz0 hz1 hz2 rfl (by omega) _ (0 + 1) _ rfl ho1 _ A9 (Za R).length c9 (Zh (Za R)) rfl (r9.reads.below (below_append hg1)) (cellsU_one _) (by unfold maxLen; omega) (by omega) (by have := hg1.size; simp at this; omega) ?_; intro v2 w2 ho2 hg2 hat2))
    have hrow2 : YJ w2 w.heap.size zs := by
      have h1 : YJ w1 w.heap.size zs := HS.out.row.below (below_append hg1)
      refine ⟨h1.blk.stays hg2 (fun e => ?_)⟩
      have := (ho1.lt w.heap.size e.symm).1
      omega
    have hlow2 : Below w.heap.size w w2 := by
      refine (Zb HS.out.low (below_append hg1)).grown hg2 (by have := hg1.size; simp at this; omega) (fun k hk => ?_)
      have := (ho1.lt k hk).1
      omega
    have e2 : [] ++ [Value.int .u32 (x : Int)] ++ Zh (Za R) = Zh (x :: Za R) := by simp [Zh]
    rw [e2] at ho2
    have hl2 : Zj (x :: Za R) := limbs_cons.2 ⟨hx, Yt _⟩
    have hlen2 : (x :: Za R).length = 0 + 1 + (Za R).length := by simp; omega
    rw [<- hlen2] at ho2
    have hval2 : val (x :: Za R) = x + 4294967296 * R := by simp only [val, Zi]
    obtain ⟨A2, c2, he2, hz2', hz3', hz4'⟩ := (OwnX.of_own hl2 ho2).form
    have C1 := Xo A2 c2 (x :: Za R) hl2 hz2' hz3' w2.heap.size w2 (ZD.of_own hz4')
    have hown2 := Yx.of_ownL (XF.cut hl2 hz2' hz3' hz4' (Nat.le_refl _))
    rw [hval2] at hown2 C1
    rw [<- he2] at C1
    obtain ⟨R1, hR1⟩ : ∃ R1, R1 = x + 4294967296 * R := ⟨_, rfl⟩
    rw [<- hR1] at hown2 C1
    have hlt1 := HS.out.lt
    have hR1n : (Za R1).length <= 536870002 := by
      have h1 := YB hl2
      rw [hval2, <- hR1, hlen2] at h1
      omega
    have hq0 : R1 / val ys < 4294967296 := by rw [hR1]; exact fit_lt hx hlt1
    have HR1 := Hd hR1
    have H1 := Hd C1
    have HO2 := Hd hown2
    have HW2 := Hd hrow2
    have HL2 := Hd hlow2
    have hls := hlow2.size
    have hrs := hrow2.lt
    clear C1 hown2 hR1 hlt1 hval2 hl2 hlen2 hz2' hz3' hz4' he2 e2 ho1 hg1 hat1 ho2 hg2 hat2 hrow2 hlow2 r9 hxc hl0 hrl
    refine H1.out.mono ?_
    rintro e w3 ⟨rfl, rfl⟩
    have C2 := Hd (Jn A2 B c2 d (Za R1) ys (ZB _) HC.out w2 HO2.out.raw_ (HY.out.below HL2.out))
    clear H1
    go_wp2_with fail
    refine C2.out.mono ?_
    rintro e w3 ⟨rfl, hb3⟩
    have HO3 := Hd (HO2.out.below hb3)
    have HW3 := Hd (HW2.out.below hb3)
    have HL3 := Hd (Zb HL2.out hb3)
    have hls3 := hb3.size
    obtain ⟨z, hze⟩ : ∃ z, z = YE (val (Za R1)) (val ys) := ⟨_, rfl⟩
    rw [<- hze]
    have hz2 : R1 < val ys ↔ z < 0 := by
      rw [hze, Zi]
      unfold YE
      split <;> (try split) <;> omega
    clear hze hb3 C2 HL2 HO2 HW2
    by_cases hcmp : R1 < val ys
    . have hd : decide (z < 0) = true := by simp; omega
      have HD := Hd (show ∃ R zs, RDiv w w3 w.heap.size xs ys (.slice A2 (Za R1).length c2) j R zs from by
       refine ⟨_, zs, HS.out.skip hj HW3.out HL3.out (by rw [HXE.out, <- HR1.out]; exact HO3.out) (by rw [HXE.out, <- HR1.out]; exact hcmp)⟩)
      clear hz2 HO3 HW3 HL3 HS HX HY hcmp
      go_wp2_with fail
      go_roundw
      case rel => exact ⟨j, _, rfl, by omega, by omega, HD⟩
      case measure => simp [intOf]
    . have hd : decide (z < 0) = false := by simp; omega
      have C3 := ref_fitting A2 B c2 d (Za R1) ys (ZB _) (by omega) HP.out (by rw [Zi]; exact hq0) w3 HO3.out.raw_ (HY.out.below HL3.out)
      rw [Zi] at C3
      obtain ⟨q, hqe⟩ : ∃ q, q = R1 / val ys := ⟨_, rfl⟩
      rw [<- hqe] at C3 hq0
      have HQ := Hd hqe
      have H3 := Hd C3
      clear hz2 C3 hqe hcmp
      go_wp2_with fail
      refine H3.out.mono ?_
      rintro e w4 ⟨rfl, hb4⟩
      have hj2 : j < zs.length := by rw [HS.out.len]; exact hj
      have HO4 := Hd ((HO3.out.below hb4).far (k := j) (Nat.lt_succ_self _) (.int .u32 (q : Int)))
      have row4 := HW3.out.below hb4
      have HW4 := Hd (row4.set j q)
      have low4 := Zb HL3.out hb4
      have HL4 := Hd (low4.setCell (p := ⟨w.heap.size, j, none⟩) (Nat.le_refl _) (.int .u32 (q : Int)))
      have fz := row4.frozen j
      have hcell := row4.cell hj2
      generalize zs[j] = old at hcell
      have hls4 := hb4.size
      have C4 := Hd (ref_times B d q ys hq0 (by omega) (w4.setCell ⟨w.heap.size, j, none⟩ (.int .u32 (q : Int))) (HY.out.below HL4.out))
      clear H3 row4 low4 hb4 HO3 HW3 HL3
      go_wp2_with fail
      refine C4.out.mono ?_
      rintro e w5 ⟨v5, rfl, hv5, hb5⟩
      have HO5 := Hd (HO4.out.below hb5)
      have HW5 := Hd (HW4.out.below hb5)
      have HL5 := Hd (Zb HL4.out hb5)
      have hls5 := hb5.size
      simp [World.setCell] at hls5
      obtain ⟨A5, c5, rfl, r5⟩ := hv5.raw
      have hle : val ys * q <= R1 := by rw [HQ.out]; exact Nat.mul_div_le _ _
      have C5 := ref_subN A2 A5 c2 c5 (Za R1) (Za (val ys * q)) (Yu hle) (by rw [Zi, Zi]; exact hle) (by omega) w5 HO5.out.raw_ r5
      rw [Zi, Zi] at C5
      have H5 := Hd C5
      clear C4 HO4 HW4 HL4 hv5 hb5 r5 C5 fz hcell
      go_wp2_with fail
      refine H5.out.mono ?_
      rintro e w6 ⟨v6, rfl, hv6, hb6⟩
      have HD := Hd (show ∃ R zs, RDiv w w6 w.heap.size xs ys v6 j R zs from by
       refine ⟨_, _, HS.out.take hj (q := q) (by rw [HXE.out, <- HR1.out]; exact HQ.out) hq0 (HW5.out.below hb6) (Zb HL5.out hb6) (by rw [HXE.out, <- HR1.out]; exact hv6.base (by omega))⟩)
      clear H5 HO5 HW5 HL5 HS HX HY hv6 hb6 hle
      go_wp2_with fail
      go_roundw
      case rel => exact ⟨j, _, rfl, by omega, by omega, HD⟩
      case measure => simp [intOf]
end Go.Proofs.YtdonecnhdkjniaaGreatDoor
