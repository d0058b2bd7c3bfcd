/- Several texts in one: Quo, Free, IntFree, Common, Lz. -/
import Derived.Test.YtmcnmoljliggfaaGreatDoorBt09
import Derived.Deep.LoopGhost
set_option maxRecDepth 100000
set_option maxHeartbeats 8000000
/- Divide of package exact: the quotient toward nought, and what is left. (Written by wip/exact/gendivide.py.) -/
namespace Go.Proofs.YtmcnmoljliggfaaGreatDoor
open Go.RowKit

theorem exact_Divide_less (n1 n2 : Bool) (A B : Option Addr) (c d : Nat) (xs ys : List Nat) (hcx : Canon xs) (hcy : Canon ys) (hlt : val xs < val ys) (hlx : xs.length ≤ 536870912) (hly : ys.length ≤ 536870912) (w : World) (h : Raw w A c xs) (g : Raw w B d ys) :
    Calls Tryz.prog 109 #[.agg #[.bool n1, .slice A xs.length c], .agg #[.bool n2, .slice B ys.length d]] w (RetTwo w.heap.size w 0 (ival n1 xs)) := by
  have px := (((Pair.new w 25 (.bool n1) (.slice A xs.length c)).alloc (.cells #[.bool n2, .slice B ys.length d] 25)).alloc (.cells #[.bool false, .slice none 0 0] 25)).alloc (.cells #[.bool false, .slice none 0 0] 25)
  have py := ((Pair.new (w.alloc (.cells #[.bool n1, .slice A xs.length c] 25)) 25 (.bool n2) (.slice B ys.length d)).alloc (.cells #[.bool false, .slice none 0 0] 25)).alloc (.cells #[.bool false, .slice none 0 0] 25)
  have pq := (Pair.new ((w.alloc (.cells #[.bool n1, .slice A xs.length c] 25)).alloc (.cells #[.bool n2, .slice B ys.length d] 25)) 25 (.bool false) (.slice none 0 0)).alloc (.cells #[.bool false, .slice none 0 0] 25)
  have pr := Pair.new (((w.alloc (.cells #[.bool n1, .slice A xs.length c] 25)).alloc (.cells #[.bool n2, .slice B ys.length d] 25)).alloc (.cells #[.bool false, .slice none 0 0] 25)) 25 (.bool false) (.slice none 0 0)
  have rx := ((((h.alloc (.cells #[.bool n1, .slice A xs.length c] 25)).alloc (.cells #[.bool n2, .slice B ys.length d] 25)).alloc (.cells #[.bool false, .slice none 0 0] 25)).alloc (.cells #[.bool false, .slice none 0 0] 25))
  have ry := ((((g.alloc (.cells #[.bool n1, .slice A xs.length c] 25)).alloc (.cells #[.bool n2, .slice B ys.length d] 25)).alloc (.cells #[.bool false, .slice none 0 0] 25)).alloc (.cells #[.bool false, .slice none 0 0] 25))
  have b0 := ((((Below.refl w.heap.size w).alloc (Nat.le_refl _) (.cells #[.bool n1, .slice A xs.length c] 25)).alloc (by simp) (.cells #[.bool n2, .slice B ys.length d] 25)).alloc (by simp; omega) (.cells #[.bool false, .slice none 0 0] 25)).alloc (by simp; omega) (.cells #[.bool false, .slice none 0 0] 25)
  simp only [World.size_alloc] at py pq pr
  clear h g
  go_enter Tryz.func109, Tryz.ntmps109
  go_wp2_with fail
  obtain ⟨W, E⟩ : ∃ W, W = ((((w.alloc (.cells #[.bool n1, .slice A xs.length c] 25)).alloc (.cells #[.bool n2, .slice B ys.length d] 25)).alloc (.cells #[.bool false, .slice none 0 0] 25)).alloc (.cells #[.bool false, .slice none 0 0] 25)) := ⟨_, rfl⟩
  rw [← E] at px py pq pr b0 rx ry ⊢
  have hsz : W.heap.size = w.heap.size + 4 := by rw [E]; simp
  clear E
  have PX := Hd px
  have PY := Hd py
  have PQ := Hd pq
  have PR := Hd pr
  have B0 := Hd b0
  have RX := Hd rx
  have RY := Hd ry
  obtain ⟨l1, x0, x1, -, -⟩ := px.facts
  obtain ⟨l2, y0, y1, -, -⟩ := py.facts
  clear px py pq pr rx ry b0
  refine (exact_size_told A B c d xs ys hcx hcy (by omega) (by omega) W RX.out RY.out).mono ?_
  rintro e wz ⟨kz, rfl, hk, hbz⟩
  have hk2 := hk.2 hlt
  have hdk : decide (kz < 0) = true := by simp; omega
  obtain ⟨-, xz0, xz1, -, -⟩ := (PX.out.below hbz).facts
  obtain ⟨-, yz0, yz1, -, -⟩ := (PY.out.below hbz).facts
  have C1 := Hd (exact_own n1 A c xs (by omega) wz (RX.out.below hbz))
  have B1 := Hd (belowTo B0.out hbz)
  have PQ1 := Hd (PQ.out.below hbz)
  have PR1 := Hd (PR.out.below hbz)
  have hz1 := hbz.size
  clear hk hk2 hbz l1 x0 x1 l2 y0 y1 PX PY RX RY B0 PQ PR
  go_wp2_with fail
  refine C1.out.mono ?_
  rintro e w1 ⟨v, rfl, hv, hb⟩
  obtain ⟨A1, c1, hform, -⟩ := hv.form
  rw [hform] at hv ⊢
  have pq := PQ1.out.below hb
  have pr := PR1.out.below hb
  obtain ⟨a1, a2, a3, a4, a5⟩ := pq.facts
  obtain ⟨r1, r2, r3, r4, r5⟩ := pr.facts
  have hlr := PR1.out.blk.lt
  have HI := Hd ((Ints2.mk (IntOwn.nought w1 wz.heap.size) hv (fun g h => by cases h)).pair (g := w.heap.size + 1 + 1) (a := .bool false) (b := .slice none 0 0) (by omega))
  have HI2 := Hd (HI.out.pair (g := w.heap.size + 1 + 1 + 1) (a := .bool (decide (ival n1 xs < 0))) (b := .slice A1 (natL (ival n1 xs).natAbs).length c1) (by omega))
  have HB := Hd (below2 (below2 (belowTo B1.out hb) (show w.heap.size ≤ w.heap.size + 1 + 1 by omega) (.bool false) (.slice none 0 0)) (show w.heap.size ≤ w.heap.size + 1 + 1 + 1 by omega) (.bool (decide (ival n1 xs < 0))) (.slice A1 (natL (ival n1 xs).natAbs).length c1))
  have HQ := Hd ((pq.store (.bool false) (.slice none 0 0)).far (show w.heap.size + 1 + 1 ≠ w.heap.size + 1 + 1 + 1 by omega) (.bool (decide (ival n1 xs < 0))) (.slice A1 (natL (ival n1 xs).natAbs).length c1))
  have HR := Hd ((pr.far (show w.heap.size + 1 + 1 + 1 ≠ w.heap.size + 1 + 1 by omega) (.bool false) (.slice none 0 0)).store (.bool (decide (ival n1 xs < 0))) (.slice A1 (natL (ival n1 xs).natAbs).length c1))
  clear hb hv B1 PQ1 PR1 C1 pq pr xz0 xz1 yz0 yz1 HI
  go_wp2_with fail
  obtain ⟨_, k0, k1, _, _⟩ := HQ.out.facts
  obtain ⟨_, k2, k3, _, _⟩ := HR.out.facts
  exact bodyPost_ret (by simp [results, Tryz.results109, go_sem, k0, k1, k2, k3]) rfl ⟨_, _, rfl, HI2.out.base (by omega), HB.out⟩

structure Stored (w V : World) (base gq gr : Nat) (v1 : Value) (z1 : Int) (v2 : Value) (z2 : Int) (b1 : Bool) (s1 : Value) (b2 : Bool) (s2 : Value) : Prop where
  ints : Ints2 V base v1 z1 v2 z2
  pq : Pair V gq 25 (.bool b1) s1
  pr : Pair V gr 25 (.bool b2) s2
  low : Below w.heap.size w V
def AggBool (u : Value) : Prop := ∃ (b : Bool) (A : Option Addr) (k c : Nat), u = .agg #[.bool b, .slice A k c]
theorem Stored.one {w V : World} {base gq gr : Nat} {v1 v2 : Value} {z1 z2 : Int} {b1 b2 : Bool} {s1 s2 : Value} (h : Stored w V base gq gr v1 z1 v2 z2 b1 s1 b2 s2) (hgq : gq < base) (hne : gr ≠ gq) (hw : w.heap.size ≤ gq) (b : Bool) (s : Value) : Stored w ((V.setCell ⟨gq, 0, none⟩ (.bool b)).setCell ⟨gq, 1, none⟩ s) base gq gr v1 z1 v2 z2 b s b2 s2 :=
  ⟨h.ints.pair hgq, h.pq.store _ _, h.pr.far hne _ _, below2 h.low hw _ _⟩
structure Stored2 (w V : World) (base gq gr : Nat) (v1 : Value) (z1 : Int) (v2 : Value) (z2 : Int) (b1 : Bool) (s1 : Value) : Prop where
  ex : ∃ (b2 : Bool) (s2 : Value), v2 = .agg #[.bool b2, s2] ∧ Stored w V base gq gr v1 z1 v2 z2 b1 s1 b2 s2
theorem Stored.two {w V : World} {base gq gr : Nat} {v1 v2 : Value} {z1 z2 : Int} {b1 b2 : Bool} {s1 s2 : Value} (h : Stored w V base gq gr v1 z1 v2 z2 b1 s1 b2 s2) (hgr : gr < base) (hne : gq ≠ gr) (hw : w.heap.size ≤ gr) (b : Bool) (s : Value) : Stored w ((V.setCell ⟨gr, 0, none⟩ (.bool b)).setCell ⟨gr, 1, none⟩ s) base gq gr v1 z1 v2 z2 b1 s1 b s :=
  ⟨h.ints.pair hgr, h.pq.far hne _ _, h.pr.store _ _, below2 h.low hw _ _⟩

theorem exact_Divide_many (n1 n2 : Bool) (A B : Option Addr) (c d : Nat) (xs ys : List Nat) (hcx : Canon xs) (hcy : Canon ys) (hle : val ys ≤ val xs) (h2 : 2 ≤ ys.length) (hlx : xs.length ≤ 536870912) (hly : ys.length ≤ 536870912) (w : World) (h : Raw w A c xs) (g : Raw w B d ys) :
    Calls Tryz.prog 109 #[.agg #[.bool n1, .slice A xs.length c], .agg #[.bool n2, .slice B ys.length d]] w (RetTwo w.heap.size w (ival (n1 != n2) (natL (val xs / val ys))) (ival n1 (natL (val xs % val ys)))) := by
  have px := (((Pair.new w 25 (.bool n1) (.slice A xs.length c)).alloc (.cells #[.bool n2, .slice B ys.length d] 25)).alloc (.cells #[.bool false, .slice none 0 0] 25)).alloc (.cells #[.bool false, .slice none 0 0] 25)
  have py := ((Pair.new (w.alloc (.cells #[.bool n1, .slice A xs.length c] 25)) 25 (.bool n2) (.slice B ys.length d)).alloc (.cells #[.bool false, .slice none 0 0] 25)).alloc (.cells #[.bool false, .slice none 0 0] 25)
  have pq := (Pair.new ((w.alloc (.cells #[.bool n1, .slice A xs.length c] 25)).alloc (.cells #[.bool n2, .slice B ys.length d] 25)) 25 (.bool false) (.slice none 0 0)).alloc (.cells #[.bool false, .slice none 0 0] 25)
  have pr := Pair.new (((w.alloc (.cells #[.bool n1, .slice A xs.length c] 25)).alloc (.cells #[.bool n2, .slice B ys.length d] 25)).alloc (.cells #[.bool false, .slice none 0 0] 25)) 25 (.bool false) (.slice none 0 0)
  have rx := ((((h.alloc (.cells #[.bool n1, .slice A xs.length c] 25)).alloc (.cells #[.bool n2, .slice B ys.length d] 25)).alloc (.cells #[.bool false, .slice none 0 0] 25)).alloc (.cells #[.bool false, .slice none 0 0] 25))
  have ry := ((((g.alloc (.cells #[.bool n1, .slice A xs.length c] 25)).alloc (.cells #[.bool n2, .slice B ys.length d] 25)).alloc (.cells #[.bool false, .slice none 0 0] 25)).alloc (.cells #[.bool false, .slice none 0 0] 25))
  have b0 := ((((Below.refl w.heap.size w).alloc (Nat.le_refl _) (.cells #[.bool n1, .slice A xs.length c] 25)).alloc (by simp) (.cells #[.bool n2, .slice B ys.length d] 25)).alloc (by simp; omega) (.cells #[.bool false, .slice none 0 0] 25)).alloc (by simp; omega) (.cells #[.bool false, .slice none 0 0] 25)
  simp only [World.size_alloc] at py pq pr
  clear h g
  go_enter Tryz.func109, Tryz.ntmps109
  go_wp2_with fail
  obtain ⟨W, E⟩ : ∃ W, W = ((((w.alloc (.cells #[.bool n1, .slice A xs.length c] 25)).alloc (.cells #[.bool n2, .slice B ys.length d] 25)).alloc (.cells #[.bool false, .slice none 0 0] 25)).alloc (.cells #[.bool false, .slice none 0 0] 25)) := ⟨_, rfl⟩
  rw [← E] at px py pq pr b0 rx ry ⊢
  have hsz : W.heap.size = w.heap.size + 4 := by rw [E]; simp
  clear E
  have PX := Hd px
  have PY := Hd py
  have PQ := Hd pq
  have PR := Hd pr
  have B0 := Hd b0
  have RX := Hd rx
  have RY := Hd ry
  obtain ⟨l1, x0, x1, -, -⟩ := px.facts
  obtain ⟨l2, y0, y1, -, -⟩ := py.facts
  clear px py pq pr rx ry b0
  refine (exact_size_told A B c d xs ys hcx hcy (by omega) (by omega) W RX.out RY.out).mono ?_
  rintro e wz ⟨kz, rfl, hk, hbz⟩
  have hk2 := hk.1 hle
  have hdk : decide (kz < 0) = false := by simp; omega
  obtain ⟨-, xz0, xz1, -, -⟩ := (PX.out.below hbz).facts
  obtain ⟨-, yz0, yz1, -, -⟩ := (PY.out.below hbz).facts
  have B1 := Hd (belowTo B0.out hbz)
  have PX1 := Hd (PX.out.below hbz)
  have PY1 := Hd (PY.out.below hbz)
  have PQ1 := Hd (PQ.out.below hbz)
  have PR1 := Hd (PR.out.below hbz)
  have RX1 := Hd (RX.out.below hbz)
  have RY1 := Hd (RY.out.below hbz)
  have hz1 := hbz.size
  obtain ⟨m, k, r, hm1, hm2, hm3, hm4⟩ : ∃ m k r, k = m + 1 ∧ xs.length = k + r ∧ 1 ≤ r ∧ ys.length = k + 1 := by
    have := len_of_val RY.out.limbs RX.out.limbs hcy hle
    exact ⟨ys.length - 2, ys.length - 1, xs.length - (ys.length - 1), by omega, by omega, by omega, by omega⟩
  have h0 : at0 ys k ≠ 0 := by
    rw [at0_lt (by omega)]
    exact hcy _ (getLast_get hm4)
  have hly1 : decide (ys.length = 1) = false := by simp; omega
  have hly2 : ((ys.length : Int) == 1) = false := by simp; omega
  have C1 := exact_divide A B c d xs ys m k r hm1 hm2 hm3 hm4 h0 hlx wz RX1.out RY1.out
  rw [← hm2, ← hm4] at C1
  have C2 := Hd C1
  clear C1 hm1 hm2 hm3 hm4 h0 hk hk2 hbz l1 x0 x1 l2 y0 y1 PX PY RX RY B0 PQ PR
  go_wp2_with fail
  refine C2.out.mono ?_
  rintro e V ⟨gl, gq, cl, zl, zq, rfl, hne, hgl, hgq, hrq, hfl, hzq, hzl, hvq, hvl, hlq, hll, hcl, hb⟩
  have hfq := hrq.front
  have PX2 := Hd (PX1.out.below hb)
  have PY2 := Hd (PY1.out.below hb)
  have ST := Hd (Stored.mk (b1 := false) (s1 := .slice none 0 0) (b2 := false) (s2 := .slice none 0 0) (Ints2.mk
      (IntOwn.sv (neg := n1 != n2) hzq (by have := hfq.own hgq (Nat.le_refl _) (by omega); rwa [List.take_length] at this) (Nat.le_refl _) (by omega))
      (IntOwn.sv (neg := n1) hzl (by have := hfl.own hgl (Nat.le_refl _) hcl; rwa [List.take_length] at this) hfl.fits hcl)
      (fun g h1 h2 => hne ((sv_blk h2).trans (sv_blk h1).symm))) (PQ1.out.below hb) (PR1.out.below hb) (belowTo B1.out hb))
  have e1 : ival (n1 != n2) zq = ival (n1 != n2) (natL (val xs / val ys)) := by unfold ival; rw [val_natL, hvq]
  have e2 : ival n1 zl = ival n1 (natL (val xs % val ys)) := by unfold ival; rw [val_natL, hvl]
  rw [e1, e2] at ST
  have C3 := Hd (fun (V' : World) (hV : Below V.heap.size V V') => exact_signed_sv (n1 != n2) (some ⟨gq, 0, none⟩) zq.length zq V' ((hfq.below hV).raw (by omega) hzq))
  have C4 := Hd (fun (V' : World) (hV : Below V.heap.size V V') => exact_signed_sv n1 (some ⟨gl, 0, none⟩) cl zl V' ((hfl.below hV).raw hcl hzl))
  obtain ⟨b1, A1, k1, c1, hs1⟩ := sv_form (n1 != n2) (some ⟨gq, 0, none⟩) zq.length zq
  obtain ⟨b2, A2, k2, c2, hs2⟩ := sv_form n1 (some ⟨gl, 0, none⟩) cl zl
  rw [hs1] at C3 ST
  rw [hs2] at C4 ST
  clear e1 e2 hs1 hs2 hfq hfl hrq hb hcl hll hlq hvl hvq hzl hzq hgl hgq hne PX1 PY1 PQ1 PR1 B1 C2 RX1 RY1 xz0 xz1 yz0 yz1 hdk hly1 hly2
  have HW := Hd (Below.refl V.heap.size V)
  have hg1 : w.heap.size + 1 + 1 < wz.heap.size := by omega
  have hg2 : w.heap.size + 1 + 1 + 1 < wz.heap.size := by omega
  go_wp2_with fail
  refine wp_region_steps [.val (.pointer (some ⟨w.heap.size, 0, none⟩)), .val (.bool n1), .val (.pointer (some ⟨w.heap.size + 1, 0, none⟩)), .val (.bool n2), .val (.bool (n1 != n2)), .val (.slice (some ⟨gq, 0, none⟩) zq.length zq.length), .val (.agg #[.bool b1, .slice A1 k1 c1]), .val (.pointer (some ⟨w.heap.size, 0, none⟩)), .val (.bool n1), .val (.slice (some ⟨gl, 0, none⟩) zl.length cl), .val (.agg #[.bool b2, .slice A2 k2 c2]), .step, .step] 0 2 V
    (fun us V' => True)
    (fun us V' => match us with
      | [_] => Stored w V' wz.heap.size (w.heap.size + 1 + 1) (w.heap.size + 1 + 1 + 1) (.agg #[.bool b1, .slice A1 k1 c1]) (ival (n1 != n2) (natL (val xs / val ys))) (.agg #[.bool b2, .slice A2 k2 c2]) (ival n1 (natL (val xs % val ys))) b1 (.slice A1 k1 c1) false (.slice none 0 0)
      | _ => Stored w V' wz.heap.size (w.heap.size + 1 + 1) (w.heap.size + 1 + 1 + 1) (.agg #[.bool b1, .slice A1 k1 c1]) (ival (n1 != n2) (natL (val xs / val ys))) (.agg #[.bool b2, .slice A2 k2 c2]) (ival n1 (natL (val xs % val ys))) b1 (.slice A1 k1 c1) b2 (.slice A2 k2 c2))
    _ mixedOrders2 (by kernel_rfl) (by kernel_rfl) (by kernel_rfl) (by kernel_rfl) (by kernel_rfl) (by kernel_rfl) (by kernel_rfl) (by kernel_rfl) (by kernel_rfl) rfl ?_ HW.out trivial ?_ ?_ ?_
  · intro us V1 V2 _ _
    trivial
  · simp [ValsOk, chainAct, fill, pairs, valAt]
    repeat' apply And.intro
    all_goals
      intro V' hV
      obtain ⟨-, e0, e1, -, -⟩ := (PX2.out.below hV).facts
      obtain ⟨-, f0, f1, -, -⟩ := (PY2.out.below hV).facts
      have HV := Hd hV
      clear hV
      go_simp
      first
      | exact Below.refl _ _
      | exact ⟨by cases n1 <;> cases n2 <;> rfl, Below.refl _ _⟩
      | (with_reducible refine (C3.out V' HV.out).mono ?_; rintro e w' ⟨rfl, hb⟩; exact ⟨rfl, hb⟩)
      | (with_reducible refine (C4.out V' HV.out).mono ?_; rintro e w' ⟨rfl, hb⟩; exact ⟨rfl, hb⟩)
  · simp [StepsOk, chainAct, fill, pairs, valAt]
    refine ⟨fun V' hV => ?_, fun V' hst => ?_⟩
    · have st : Stored w V' wz.heap.size (w.heap.size + 1 + 1) (w.heap.size + 1 + 1 + 1) (.agg #[.bool b1, .slice A1 k1 c1]) (ival (n1 != n2) (natL (val xs / val ys))) (.agg #[.bool b2, .slice A2 k2 c2]) (ival n1 (natL (val xs % val ys))) false (.slice none 0 0) false (.slice none 0 0) := ⟨ST.out.ints.below hV, ST.out.pq.below hV, ST.out.pr.below hV, belowTo ST.out.low hV⟩
      obtain ⟨q1, q2, q3, q4, q5⟩ := st.pq.facts
      have S := Hd (st.one hg1 (by omega) (by omega) b1 (.slice A1 k1 c1))
      clear st
      go_simp
      exact S.out
    · obtain ⟨q1, q2, q3, q4, q5⟩ := hst.pr.facts
      have S := Hd (hst.two hg2 (by omega) (by omega) b2 (.slice A2 k2 c2))
      clear hst
      go_simp
      exact S.out
  · intro us V' hus hF
    obtain ⟨u0, u1, rfl⟩ : ∃ u0 u1, us = [u0, u1] := by
      match us, hus with
      | [u0, u1], _ => exact ⟨u0, u1, rfl⟩
    simp only [show ¬ (2 ≤ 0) by decide, if_false] at hF
    simp [chainAct, fill, pairs, valAt]
    obtain ⟨_, k0, k1, _, _⟩ := hF.pq.facts
    obtain ⟨_, k2, k3, _, _⟩ := hF.pr.facts
    have HF := Hd hF
    clear hF PX2 PY2 ST
    go_wp2_with fail
    exact bodyPost_ret (by simp [results, Tryz.results109, go_sem, k0, k1, k2, k3]) rfl ⟨_, _, rfl, HF.out.ints.base (by omega), HF.out.low⟩

theorem exact_Divide_one (n1 n2 : Bool) (A B : Option Addr) (c d : Nat) (xs ys : List Nat) (hcx : Canon xs) (hcy : Canon ys) (hle : val ys ≤ val xs) (hl1 : ys.length = 1) (hlx : xs.length ≤ 536870912) (hly : ys.length ≤ 536870912) (w : World) (h : Raw w A c xs) (g : Raw w B d ys) :
    Calls Tryz.prog 109 #[.agg #[.bool n1, .slice A xs.length c], .agg #[.bool n2, .slice B ys.length d]] w (RetTwo w.heap.size w (ival (n1 != n2) (natL (val xs / val ys))) (ival n1 (natL (val xs % val ys)))) := by
  have HL1 := Hd hl1
  clear hl1
  have px := (((Pair.new w 25 (.bool n1) (.slice A xs.length c)).alloc (.cells #[.bool n2, .slice B ys.length d] 25)).alloc (.cells #[.bool false, .slice none 0 0] 25)).alloc (.cells #[.bool false, .slice none 0 0] 25)
  have py := ((Pair.new (w.alloc (.cells #[.bool n1, .slice A xs.length c] 25)) 25 (.bool n2) (.slice B ys.length d)).alloc (.cells #[.bool false, .slice none 0 0] 25)).alloc (.cells #[.bool false, .slice none 0 0] 25)
  have pq := (Pair.new ((w.alloc (.cells #[.bool n1, .slice A xs.length c] 25)).alloc (.cells #[.bool n2, .slice B ys.length d] 25)) 25 (.bool false) (.slice none 0 0)).alloc (.cells #[.bool false, .slice none 0 0] 25)
  have pr := Pair.new (((w.alloc (.cells #[.bool n1, .slice A xs.length c] 25)).alloc (.cells #[.bool n2, .slice B ys.length d] 25)).alloc (.cells #[.bool false, .slice none 0 0] 25)) 25 (.bool false) (.slice none 0 0)
  have rx := ((((h.alloc (.cells #[.bool n1, .slice A xs.length c] 25)).alloc (.cells #[.bool n2, .slice B ys.length d] 25)).alloc (.cells #[.bool false, .slice none 0 0] 25)).alloc (.cells #[.bool false, .slice none 0 0] 25))
  have ry := ((((g.alloc (.cells #[.bool n1, .slice A xs.length c] 25)).alloc (.cells #[.bool n2, .slice B ys.length d] 25)).alloc (.cells #[.bool false, .slice none 0 0] 25)).alloc (.cells #[.bool false, .slice none 0 0] 25))
  have b0 := ((((Below.refl w.heap.size w).alloc (Nat.le_refl _) (.cells #[.bool n1, .slice A xs.length c] 25)).alloc (by simp) (.cells #[.bool n2, .slice B ys.length d] 25)).alloc (by simp; omega) (.cells #[.bool false, .slice none 0 0] 25)).alloc (by simp; omega) (.cells #[.bool false, .slice none 0 0] 25)
  simp only [World.size_alloc] at py pq pr
  clear h g
  go_enter Tryz.func109, Tryz.ntmps109
  go_wp2_with fail
  obtain ⟨W, E⟩ : ∃ W, W = ((((w.alloc (.cells #[.bool n1, .slice A xs.length c] 25)).alloc (.cells #[.bool n2, .slice B ys.length d] 25)).alloc (.cells #[.bool false, .slice none 0 0] 25)).alloc (.cells #[.bool false, .slice none 0 0] 25)) := ⟨_, rfl⟩
  rw [← E] at px py pq pr b0 rx ry ⊢
  have hsz : W.heap.size = w.heap.size + 4 := by rw [E]; simp
  clear E
  have PX := Hd px
  have PY := Hd py
  have PQ := Hd pq
  have PR := Hd pr
  have B0 := Hd b0
  have RX := Hd rx
  have RY := Hd ry
  obtain ⟨l1, x0, x1, -, -⟩ := px.facts
  obtain ⟨l2, y0, y1, -, -⟩ := py.facts
  clear px py pq pr rx ry b0
  refine (exact_size_told A B c d xs ys hcx hcy (by omega) (by omega) W RX.out RY.out).mono ?_
  rintro e wz ⟨kz, rfl, hk, hbz⟩
  have hk2 := hk.1 hle
  have hdk : decide (kz < 0) = false := by simp; omega
  obtain ⟨-, xz0, xz1, -, -⟩ := (PX.out.below hbz).facts
  obtain ⟨-, yz0, yz1, -, -⟩ := (PY.out.below hbz).facts
  have B1 := Hd (belowTo B0.out hbz)
  have PX1 := Hd (PX.out.below hbz)
  have PY1 := Hd (PY.out.below hbz)
  have PQ1 := Hd (PQ.out.below hbz)
  have PR1 := Hd (PR.out.below hbz)
  have RX1 := Hd (RX.out.below hbz)
  have RY1 := Hd (RY.out.below hbz)
  have hz1 := hbz.size
  have hl1 := HL1.out
  have h0 : at0 ys 0 ≠ 0 := by
    rw [at0_lt (by omega)]
    exact hcy _ (getLast_get hl1)
  have hyv : val ys = at0 ys 0 := by
    match ys, hl1 with
    | [y], _ => simp [val, at0]
  have hxne : xs ≠ [] := by
    rintro rfl
    rw [hyv] at hle
    simp [val] at hle
    exact h0 hle
  obtain ⟨ad, rfl, hbl, hcy0⟩ := RY1.out.reads.get (k := 0) (by omega)
  have hcy1 : wz.cell? ad = some (.int .u32 ((at0 ys 0 : Nat) : Int)) := by
    rw [at0_lt (by omega)]
    simpa [Addr.add] using hcy0
  have hy2 := at0_limb RY1.out.limbs 0
  have C1 := Hd (slices_Clone A c xs (by omega) wz RX1.out)
  have hbn : ((1 : Int) == 1) = true := rfl
  have HYV := Hd hyv
  rw [hl1]
  generalize at0 ys 0 = y at h0 hcy1 hy2 HYV
  clear hk hk2 hbz l1 x0 x1 l2 y0 y1 PX PY RX RY B0 PQ PR hcy0 hyv hbn
  go_wp2_with fail
  refine C1.out.mono ?_
  rintro e w1 ⟨v, rfl, hv, hb1⟩
  obtain ⟨gl, cl, rfl, hgl, hcl, hfr⟩ := hv.front hxne
  have hcy2 : w1.cell? ad = some (.int .u32 (y : Int)) := (hb1.cell hbl).trans hcy1
  obtain ⟨-, yw0, yw1, -, -⟩ := (PY1.out.below hb1).facts
  have C2 := Hd (exact_short gl cl cl y xs (by omega) hy2 hv.limbs (by omega) w1 hfr)
  have hadl : ad.block < w1.heap.size := Nat.lt_of_lt_of_le hbl hb1.size
  clear hv hcy1 yz0 yz1 xz0 xz1 C1 hfr
  go_wp2_with fail
  refine C2.out.mono ?_
  rintro e V ⟨rfl, zq, hlq, hzq, hvq, hfq, hgr⟩
  have hb : Below wz.heap.size wz V := hb1.grown hgr hb1.size (fun k hk => by injection hk with hk; rw [← hk]; exact hgl)
  have PX2 := Hd (PX1.out.below hb)
  have PY2 := Hd (PY1.out.below hb)
  have PQ2 := Hd (PQ1.out.below hb)
  have PR2 := Hd (PR1.out.below hb)
  have B2 := Hd (belowTo B1.out hb)
  have hgV := hfq.lt
  have IQ := Hd (IntOwn.sv (neg := n1 != n2) hzq (by have := hfq.own hgl (Nat.le_refl _) hcl; rwa [List.take_length] at this) hfq.fits hcl)
  have e1 : ival (n1 != n2) zq = ival (n1 != n2) (natL (val xs / val ys)) := by unfold ival; rw [val_natL, hvq, HYV.out]
  rw [e1] at IQ
  have HBQ := Hd (fun g h => sv_blk (neg := n1 != n2) (a := ⟨gl, 0, none⟩) (c := cl) (zs := zq) (g := g) h)
  have C3 := Hd (fun (V' : World) (hV : Below V.heap.size V V') => exact_signed_sv (n1 != n2) (some ⟨gl, 0, none⟩) cl zq V' ((hfq.below hV).raw hcl hzq))
  obtain ⟨b1, A1, k1, c1, hs1⟩ := sv_form (n1 != n2) (some ⟨gl, 0, none⟩) cl zq
  rw [hs1] at C3 IQ HBQ
  rw [← hlq]
  have hrl : val xs % y < y := Nat.mod_lt _ (by omega)
  have hrest : val [val xs % y] = val xs % val ys := by rw [HYV.out]; simp [val]
  have HREST := Hd hrest
  generalize val xs % y = rest at hrl HREST
  have hrest2 : (rest : Int) < 4294967296 := by omega
  have hlimb : Limbs [rest] := by intro x hx; simp at hx; omega
  have e2 : ival n1 [rest] = ival n1 (natL (val xs % val ys)) := by unfold ival; rw [val_natL, HREST.out]
  have HLIMB := Hd hlimb
  have HE2 := Hd e2
  have C4 := Hd (fun (V' : World) (g : Nat) (hr : Row V' g [rest]) => exact_signed_sv n1 (some ⟨g, 0, none⟩) 1 [rest] V' (hr.front.raw (by simp) HLIMB.out))
  clear e1 e2 hs1 hfq hlq hvq hzq hb hgr hb1 PX1 PY1 PQ1 PR1 B1 C2 RX1 RY1 hdk yw0 yw1 hcy2 hrest hlimb hbl hadl
  have HW := Hd (Below.refl V.heap.size V)
  have hg1 : w.heap.size + 1 + 1 < wz.heap.size := by omega
  have hg2 : w.heap.size + 1 + 1 + 1 < wz.heap.size := by omega
  have hwV : wz.heap.size ≤ V.heap.size := by have := B2.out.size; omega
  go_wp2_with fail
  refine wp_region_steps [.val (.pointer (some ⟨w.heap.size, 0, none⟩)), .val (.bool n1), .val (.pointer (some ⟨w.heap.size + 1, 0, none⟩)), .val (.bool n2), .val (.bool (n1 != n2)), .val (.slice (some ⟨gl, 0, none⟩) zq.length cl), .val (.agg #[.bool b1, .slice A1 k1 c1]), .val (.pointer (some ⟨w.heap.size, 0, none⟩)), .val (.bool n1), .val (.int .u32 (rest : Int)), .step, .step, .step, .step] 2 4 V
    (fun us V' => match us with
      | [] => True
      | [u] => ∃ g, u = .slice (some ⟨g, 0, none⟩) 1 1 ∧ V.heap.size ≤ g ∧ Row V' g [rest]
      | [_, u] => IntOwn V' V.heap.size u (ival n1 (natL (val xs % val ys)))
      | _ => False)
    (fun us V' => match us with
      | [_, u, _] => AggBool u ∧ Stored w V' wz.heap.size (w.heap.size + 1 + 1) (w.heap.size + 1 + 1 + 1) (.agg #[.bool b1, .slice A1 k1 c1]) (ival (n1 != n2) (natL (val xs / val ys))) u (ival n1 (natL (val xs % val ys))) b1 (.slice A1 k1 c1) false (.slice none 0 0)
      | [_, u, _, _] => Stored2 w V' wz.heap.size (w.heap.size + 1 + 1) (w.heap.size + 1 + 1 + 1) (.agg #[.bool b1, .slice A1 k1 c1]) (ival (n1 != n2) (natL (val xs / val ys))) u (ival n1 (natL (val xs % val ys))) b1 (.slice A1 k1 c1)
      | _ => False)
    _ mixedOrders2 (by kernel_rfl) (by kernel_rfl) (by kernel_rfl) (by kernel_rfl) (by kernel_rfl) (by kernel_rfl) (by kernel_rfl) (by kernel_rfl) (by kernel_rfl) rfl ?_ HW.out trivial ?_ ?_ ?_
  · intro us V1 V2 hg hb
    match us, hg with
    | [], _ => trivial
    | [u], ⟨g, h1, h2, h3⟩ => exact ⟨g, h1, h2, h3.below hb⟩
    | [_, u], hg => exact hg.below hb
  · simp [ValsOk, chainAct, fill, pairs, valAt]
    repeat' apply And.intro
    all_goals
      intro V' hV
      obtain ⟨-, e0, e1, -, -⟩ := (PX2.out.below hV).facts
      obtain ⟨-, f0, f1, -, -⟩ := (PY2.out.below hV).facts
      have HV := Hd hV
      clear hV
      go_simp
      first
      | exact Below.refl _ _
      | exact ⟨by cases n1 <;> cases n2 <;> rfl, Below.refl _ _⟩
      | (with_reducible refine (C3.out V' HV.out).mono ?_; rintro e w' ⟨rfl, hb⟩; exact ⟨rfl, hb⟩)
  · simp [StepsOk, chainAct, fill, pairs, valAt, stepNo, List.filter, Stp.isStep]
    refine ⟨fun V' hV => ?_, fun va => ⟨fun V' hV g h1 h2 h3 => ?_, fun vb => ⟨fun V' hV hI => ?_, fun V' h1 hst => ?_⟩⟩⟩
    · have HV := Hd hV
      have hsz2 := hV.size
      clear hV
      go_simp
      exact ⟨HV.out.alloc hsz2 _, ⟨Blk.new V' _ _⟩⟩
    · have C5 := C4.out V' g h3
      obtain ⟨b2, A2, k2, c2, hs2⟩ := sv_form n1 (some ⟨g, 0, none⟩) 1 [rest]
      have I2 := Hd (IntOwn.sv (neg := n1) (c := 1) HLIMB.out (by have := h3.front.own h2 (Nat.le_refl _) (by simp); rwa [List.take_length] at this) (Nat.le_refl _) (by simp))
      rw [hs2] at C5 I2
      rw [HE2.out] at I2
      have H5 := Hd C5
      have HV := Hd hV
      clear hV C5 h3 hs2
      subst h1
      go_simp
      refine H5.out.mono ?_
      rintro e w' ⟨rfl, hb⟩
      exact ⟨belowTo HV.out hb, I2.out.below hb⟩
    · obtain ⟨A2, c2, hform, -, -, hown⟩ := hI.form
      have st : Stored w V' wz.heap.size (w.heap.size + 1 + 1) (w.heap.size + 1 + 1 + 1) (.agg #[.bool b1, .slice A1 k1 c1]) (ival (n1 != n2) (natL (val xs / val ys))) vb (ival n1 (natL (val xs % val ys))) false (.slice none 0 0) false (.slice none 0 0) :=
        ⟨⟨IQ.out.below hV, hI.base hwV, fun g h1 h2 => by
          have e := HBQ.out g h1
          rw [hform] at h2
          have h3 := (hown.lt g h2).1
          have e2 : gl = g := e
          omega⟩, PQ2.out.below hV, PR2.out.below hV, belowTo B2.out hV⟩
      obtain ⟨q1, q2, q3, q4, q5⟩ := st.pq.facts
      have S := Hd (st.one hg1 (by omega) (by omega) b1 (.slice A1 k1 c1))
      have HF2 : AggBool vb := ⟨_, _, _, _, hform⟩
      clear st hown hI hV
      subst hform
      go_simp
      exact S.out
    · obtain ⟨b2, A2, k2, c2, rfl⟩ := h1
      obtain ⟨q1, q2, q3, q4, q5⟩ := hst.pr.facts
      have S := Hd (hst.two hg2 (by omega) (by omega) b2 (.slice A2 k2 c2))
      clear hst
      go_simp
      exact ⟨_, _, rfl, S.out⟩
  · intro us V' hus hF
    obtain ⟨u0, u1, u2, u3, rfl⟩ : ∃ u0 u1 u2 u3, us = [u0, u1, u2, u3] := by
      match us, hus with
      | [u0, u1, u2, u3], _ => exact ⟨u0, u1, u2, u3, rfl⟩
    simp only [show ¬ (4 ≤ 2) by decide, if_false] at hF
    obtain ⟨b2, s2, rfl, hF⟩ := hF.ex
    simp [chainAct, fill, pairs, valAt, stepNo, List.filter, Stp.isStep]
    obtain ⟨_, k0, k1, _, _⟩ := hF.pq.facts
    obtain ⟨_, k2, k3, _, _⟩ := hF.pr.facts
    have HF := Hd hF
    clear hF PX2 PY2
    go_wp2_with fail
    exact bodyPost_ret (by simp [results, Tryz.results109, go_sem, k0, k1, k2, k3]) rfl ⟨_, _, rfl, HF.out.ints.base (by omega), HF.out.low⟩

theorem quo_val (n1 n2 : Bool) (xs ys : List Nat) : ival (n1 != n2) (natL (val xs / val ys)) = (ival n1 xs).tdiv (ival n2 ys) ∧ ival n1 (natL (val xs % val ys)) = (ival n1 xs).tmod (ival n2 ys) := by
  unfold ival
  rw [val_natL, val_natL]
  have e1 : ((val xs % val ys : Nat) : Int) = (val xs : Int).tmod (val ys : Int) := by rw [Int.ofNat_tmod]
  rw [e1]
  cases n1 <;> cases n2 <;> simp [Int.neg_tdiv, Int.tdiv_neg, Int.neg_tmod, Int.tmod_neg]
theorem exact_Divide (n1 n2 : Bool) (A B : Option Addr) (c d : Nat) (xs ys : List Nat) (hcx : Canon xs) (hcy : Canon ys) (hne : ys ≠ []) (hlx : xs.length ≤ 536870912) (hly : ys.length ≤ 536870912) (w : World) (h : Raw w A c xs) (g : Raw w B d ys) :
    Calls Tryz.prog 109 #[.agg #[.bool n1, .slice A xs.length c], .agg #[.bool n2, .slice B ys.length d]] w (RetTwo w.heap.size w ((ival n1 xs).tdiv (ival n2 ys)) ((ival n1 xs).tmod (ival n2 ys))) := by
  rw [← (quo_val n1 n2 xs ys).1, ← (quo_val n1 n2 xs ys).2]
  rcases Nat.lt_or_ge (val xs) (val ys) with hlt | hle
  · have e1 : ival (n1 != n2) (natL (val xs / val ys)) = 0 := by
      rw [Nat.div_eq_of_lt hlt]; unfold ival; rw [val_natL]; cases n1 <;> cases n2 <;> rfl
    have e2 : ival n1 (natL (val xs % val ys)) = ival n1 xs := by
      rw [Nat.mod_eq_of_lt hlt]; unfold ival; rw [val_natL]
    rw [e1, e2]
    exact exact_Divide_less n1 n2 A B c d xs ys hcx hcy hlt hlx hly w h g
  · have h1 : 1 ≤ ys.length := by
      rcases Nat.eq_zero_or_pos ys.length with h0 | h0
      · exact absurd (List.eq_nil_of_length_eq_zero h0) hne
      · exact h0
    rcases Nat.lt_or_ge 1 ys.length with h2 | h2
    · exact exact_Divide_many n1 n2 A B c d xs ys hcx hcy hle h2 hlx hly w h g
    · exact exact_Divide_one n1 n2 A B c d xs ys hcx hcy hle (by omega) hlx hly w h g
/- A region that draws its order: each operation hands back whatever it likes, of which something is told that stays true; variables made and stored in; guards that are decided: ONE goal an operation, one end. -/

structure KeptV (B : Nat) (Ts : List TypeId) (w w' : World) : Prop where
  size : w.heap.size ≤ w'.heap.size
  block : ∀ g, g < w.heap.size → w'.heap[g]? = w.heap[g]? ∨ (B ≤ g ∧ ∃ T ∈ Ts, ∃ cs, Blk w g T cs)
theorem KeptV.refl (B : Nat) (Ts : List TypeId) (w : World) : KeptV B Ts w w := ⟨Nat.le_refl _, fun _ _ => .inl rfl⟩
theorem KeptV.trans {B : Nat} {Ts : List TypeId} {a b c : World} (h : KeptV B Ts a b) (k : KeptV B Ts b c) : KeptV B Ts a c := by
  refine ⟨Nat.le_trans h.size k.size, fun g hg => ?_⟩
  rcases h.block g hg with e | e
  · rcases k.block g (Nat.lt_of_lt_of_le hg h.size) with e2 | ⟨h1, T, hT, cs, h2⟩
    · exact .inl (e2.trans e)
    · exact .inr ⟨h1, T, hT, cs, by unfold Blk at h2 ⊢; rw [← e]; exact h2⟩
  · exact .inr e
theorem KeptV.drew {B : Nat} {Ts : List TypeId} {a b : World} (h : KeptV B Ts a b) : KeptV B Ts a b.drew := ⟨h.size, h.block⟩
theorem KeptV.of_below {B : Nat} {Ts : List TypeId} {w w' : World} (h : Below w.heap.size w w') : KeptV B Ts w w' := ⟨h.size, fun g hg => .inl (h.block g hg)⟩
theorem setCells_size (b : Nat) : ∀ (vs : List Value) (o : Nat) (w : World), (w.setCells b o vs).heap.size = w.heap.size
  | [], _, _ => rfl
  | v :: r, o, w => by rw [World.setCells, setCells_size b r]; simp [World.setCell]
theorem setCells_far (b : Nat) : ∀ (vs : List Value) (o : Nat) (w : World) (g : Nat), g ≠ b → (w.setCells b o vs).heap[g]? = w.heap[g]?
  | [], _, _, _, _ => rfl
  | v :: r, o, w, g, h => by rw [World.setCells, setCells_far b r _ _ g h]; exact Below.heap_setCell w ⟨b, o, none⟩ v g (fun e => h e)
theorem KeptV.setCells {B : Nat} {Ts : List TypeId} {w : World} {b : Nat} {T : TypeId} {cs : Array Value} (h : Blk w b T cs) (hT : T ∈ Ts) (hb : B ≤ b) (o : Nat) (vs : List Value) : KeptV B Ts w (w.setCells b o vs) := by
  refine ⟨by rw [setCells_size]; exact Nat.le_refl _, fun g hg => ?_⟩
  by_cases e : g = b
  · subst e; exact .inr ⟨hb, T, hT, cs, h⟩
  · exact .inl (setCells_far b vs o w g e)
theorem KeptV.blk {B : Nat} {Ts : List TypeId} {w w' : World} {g : Nat} {T : TypeId} {cs : Array Value} (k : KeptV B Ts w w') (h : Blk w g T cs) (hT : T ∉ Ts) : Blk w' g T cs := by
  rcases k.block g h.lt with e | ⟨_, T', hT', cs', h'⟩
  · exact e.trans h
  · unfold Blk at h h'
    rw [h] at h'
    injection h' with h'
    injection h' with _ h'
    subst h'
    exact absurd hT' hT
theorem KeptV.own {B : Nat} {Ts : List TypeId} {w w' : World} {base : Nat} {e : TypeId} {size n : Nat} {v : Value} {xs : List Value} (k : KeptV B Ts w w') (h : w.ownsRow base e size v n xs) (hT : e ∉ Ts) : w'.ownsRow base e size v n xs := by
  refine ⟨h.1, ?_⟩
  rcases h.2 with h2 | ⟨g, cap, cur, h1, h2, h3, h4⟩
  · exact .inl h2
  · exact .inr ⟨g, cap, cur, h1, h2, k.blk (T := e) h3 hT, h4⟩

section
variable {P : Program} {ops : Array Oper} {Q : Exit → Act → World → Prop}

theorem wp_store_cells {op : Oper} {a : Act} {w : World} {K : Act → World → Prop} {Q : Exit → Act → World → Prop} (ty : TypeId) (x y : Operand) (ho : op.op = .store ty x y)
    (b o : Nat) (v : Value) (hx : a.eval x = .pointer (some ⟨b, o, none⟩)) (hy : a.eval y = v)
    (ht : w.there b o v.cells.size) (hi : (P.info? ty).map (·.size) = some v.cells.size) (h1 : v.cells.all (·.oneCell') = true)
    (h : K (a.put op.dst undef) (w.setCells b o v.cells.toList)) : op.wp P a w K Q := by
  have e : ∀ a : Addr, storeVar ty a v = storeVar ty a (.agg v.cells) := fun _ => rfl
  unfold Oper.wp execOp
  simp only [ho, hx, hy, Instr.storeAt, Instr.sureAddr, Sem.run_bind, Sem.run_pure, Result.andThen_ok, e, run_storeVar_mid w b o ty v.cells ht hi h1]
  exact h

inductive Fcl where
  /-- a value known beforehand -/
  | val (v : Value) (ds : List Nat)
  /-- a value of which so much is told; 'mine': its memory is new -/
  | any (mine : Bool) (Φ : Value → World → Prop) (ds : List Nat)
  /-- a variable made -/
  | new (T : TypeId) (n : Nat)
  /-- a store into the variable that operation ia made of what operation ic handed back -/
  | put (T : TypeId) (n ia ic : Nat) (ds : List Nat)
  /-- a store into the elder block b (cells cs) from offset o on -/
  | old (b : Nat) (T : TypeId) (cs : Array Value) (o n ic : Nat) (ds : List Nat)
  /-- not done: its guard says no -/
  | skip

def Fcl.deps : Fcl → List Nat
  | .val _ ds => ds
  | .any _ _ ds => ds
  | .put _ _ ia ic ds => ia :: ic :: ds
  | .old _ _ _ _ _ ic ds => ic :: ds
  | _ => []
def Fcl.isSkip : Fcl → Bool
  | .skip => true
  | _ => false
def Fcl.hard : Fcl → List Nat
  | .put _ _ ia ic _ => [ia, ic]
  | .old _ _ _ _ _ ic _ => [ic]
  | _ => []
def mineAt (cl : List Fcl) (i : Nat) : Bool := match cl[i]? with
  | some (.any true _ _) => true
  | _ => false
def pairB (ops : Array Oper) (cl : List Fcl) (o : Oper) (i j : Nat) : Bool := mineAt cl i && mineAt cl j && i != j && (edgeB o i || reachB ops 4 o i) && (edgeB o j || reachB ops 4 o j)
def depsB (ops : Array Oper) (cl : List Fcl) : Bool := (List.range ops.size).all fun i => match ops[i]?, cl[i]? with
  | some o, some c => (c.deps.all fun j => if 1000000 ≤ j then pairB ops cl o ((j - 1000000) / 1000) ((j - 1000000) % 1000) else if 1000 ≤ j then (match ops[j - 1000]? with | some oj => edgeB oj i || reachB ops 4 oj i | none => false) else j == 999 || edgeB o j || reachB ops 4 o j) && c.hard.all fun j => decide (j < 1000) && (edgeB o j || reachB ops 4 o j)
  | _, _ => false
def readsF (ops : Array Oper) (cl : List Fcl) : Bool := (List.range ops.size).all fun i => match ops[i]?, cl[i]? with
  | some o, some c => c.isSkip || ((match o.op with | .select _ _ => false | _ => true) && o.op.operands.all fun x => match x with
    | .tmp t => (ops.all fun o' => o'.dst != some t) || o.after.any fun e => Region.binds .any e && ((ops[e.on]?).bind (·.dst) == some t)
    | _ => true)
  | _, _ => false
def guardsF (ops : Array Oper) (cl : List Fcl) : Bool := (List.range ops.size).all fun i => match ops[i]?, cl[i]? with
  | some o, some c => (match o.guard with
    | none => !c.isSkip
    | some (j, want) => ((ops[j]?).bind (·.dst)).isSome && (edgeB o j || reachB ops 4 o j) && (match cl[j]? with
      | some (.val (.bool b) _) => (b == want) == !c.isSkip
      | some .skip => c.isSkip
      | _ => false))
  | _, _ => false
def putsF : List Fcl → List Nat
  | .put _ _ ia _ _ :: cs => ia :: putsF cs
  | _ :: cs => putsF cs
  | [] => []
def oldsF : List Fcl → List Nat
  | .old b _ _ _ _ _ _ :: cs => b :: oldsF cs
  | _ :: cs => oldsF cs
  | [] => []
def newsF (Ts : List TypeId) (cl : List Fcl) : Bool := cl.all fun
  | .new T _ => Ts.contains T
  | .old _ T _ _ _ _ _ => Ts.contains T
  | .put T n ia _ _ => match cl[ia]? with
    | some (.new T' n') => T == T' && n == n'
    | _ => false
  | _ => true

def freeAct (ops : Array Oper) (a0 : Act) (us : List Value) : Act := ⟨fill a0.tmps (pairs ops fun i => some (us.getD i undef)), a0.defers⟩

def DepF (M : Value → Nat → Prop) (cl : List Fcl) (us : List Value) (W w : World) : List Nat → Prop
  | [] => True
  | j :: js => (if 1000000 ≤ j then ∀ g, M (us.getD ((j - 1000000) / 1000) undef) g → ¬ M (us.getD ((j - 1000000) % 1000) undef) g
    else if 1000 ≤ j then (match cl[j - 1000]? with
      | some (.old b T cs _ _ _ _) => Blk w b T cs
      | _ => True)
    else if j = 999 then ∀ g, g < W.heap.size → g ∉ oldsF cl → w.heap[g]? = W.heap[g]?
    else match cl[j]? with
      | some (.any _ Φ _) => Φ (us.getD j undef) w
      | _ => True) ∧ DepF M cl us W w js

def StoreF (P : Program) (a : Act) (o : Oper) (p v : Value) (n : Nat) : Prop := ∃ T X Y, o.op = .store T X Y ∧ o.dst = none ∧ a.eval X = p ∧ a.eval Y = v ∧ (P.info? T).map (·.size) = some n
def AllocF (P : Program) (o : Oper) (T : TypeId) (n : Nat) : Prop := ∃ z : Array Value, z.size = n ∧ ∀ (ρ : Operand → Value) (w : World), (execOp ρ o).run P w = .ok (.value (.pointer (some ⟨w.heap.size, 0, none⟩))) (w.alloc (.cells z T))
def CellsN (v : Value) (n : Nat) : Prop := v.cells.size = n ∧ v.cells.all (·.oneCell') = true
def StableF (B : Nat) (Ts : List TypeId) : List Fcl → Prop
  | .any _ Φ _ :: cs => (∀ u w w', Φ u w → KeptV B Ts w w' → Φ u w') ∧ StableF B Ts cs
  | _ :: cs => StableF B Ts cs
  | [] => True
def OldsF (B : Nat) (W w0 : World) : List Fcl → Prop
  | .old b T cs o n _ _ :: r => (B ≤ b ∧ b < W.heap.size ∧ Blk w0 b T cs ∧ o + n ≤ cs.size) ∧ OldsF B W w0 r
  | _ :: r => OldsF B W w0 r
  | [] => True
def StepsF (P : Program) (af : List Value → Act) (B : Nat) (Ts : List TypeId) (W : World) (M : Value → Nat → Prop) (cl : List Fcl) : List Value → List Oper → List Fcl → Prop
  | us, o :: os, .val v ds :: cs => (∀ w, Below B W w → KeptV B Ts W w → DepF M cl us W w ds → o.wp P (af us) w (fun a' w' => a' = (af us).put o.dst v ∧ Below w.heap.size w w') (fun _ _ _ => False)) ∧ StepsF P af B Ts W M cl (us ++ [v]) os cs
  | us, o :: os, .any mine Φ ds :: cs => (∀ w, Below B W w → KeptV B Ts W w → DepF M cl us W w ds → o.wp P (af us) w (fun a' w' => ∃ u, a' = (af us).put o.dst u ∧ Φ u w' ∧ Below w.heap.size w w' ∧ (mine = true → ∀ g, M u g → w.heap.size ≤ g ∧ g < w'.heap.size)) (fun _ _ _ => False)) ∧ ∀ u, StepsF P af B Ts W M cl (us ++ [u]) os cs
  | us, o :: os, .new T n :: cs => AllocF P o T n ∧ ∀ b, StepsF P af B Ts W M cl (us ++ [.pointer (some ⟨b, 0, none⟩)]) os cs
  | us, o :: os, .put _ n ia ic ds :: cs => StoreF P (af us) o (us.getD ia undef) (us.getD ic undef) n ∧ (∀ w, Below B W w → KeptV B Ts W w → DepF M cl us W w (ic :: ds) → CellsN (us.getD ic undef) n) ∧ StepsF P af B Ts W M cl (us ++ [undef]) os cs
  | us, o :: os, .old b _ _ k n ic ds :: cs => StoreF P (af us) o (.pointer (some ⟨b, k, none⟩)) (us.getD ic undef) n ∧ (∀ w, Below B W w → KeptV B Ts W w → DepF M cl us W w (ic :: ds) → CellsN (us.getD ic undef) n) ∧ StepsF P af B Ts W M cl (us ++ [undef]) os cs
  | us, _ :: os, .skip :: cs => StepsF P af B Ts W M cl (us ++ [undef]) os cs
  | _, _, _ => True
def FactsF (us : List Value) (w : World) : Nat → List Fcl → Prop
  | k, .any _ Φ _ :: cs => Φ (us.getD k undef) w ∧ FactsF us w (k + 1) cs
  | k, .put T _ ia ic _ :: cs => (∃ b, us.getD ia undef = .pointer (some ⟨b, 0, none⟩) ∧ Blk w b T (us.getD ic undef).cells) ∧ FactsF us w (k + 1) cs
  | k, .old b T cs0 o _ ic _ :: cs => Blk w b T (setAll cs0 o (us.getD ic undef).cells.toList) ∧ FactsF us w (k + 1) cs
  | k, _ :: cs => FactsF us w (k + 1) cs
  | _, [] => True
def EndF (W : World) (K : List Value → Prop) : List Value → List Fcl → Prop
  | us, .val v _ :: cs => EndF W K (us ++ [v]) cs
  | us, .any _ _ _ :: cs => ∀ u, EndF W K (us ++ [u]) cs
  | us, .new _ _ :: cs => ∀ b, W.heap.size ≤ b → EndF W K (us ++ [.pointer (some ⟨b, 0, none⟩)]) cs
  | us, .put _ _ _ _ _ :: cs => EndF W K (us ++ [undef]) cs
  | us, .old _ _ _ _ _ _ _ :: cs => EndF W K (us ++ [undef]) cs
  | us, .skip :: cs => EndF W K (us ++ [undef]) cs
  | us, [] => K us
def newAt (cl : List Fcl) (i : Nat) : Bool := match cl[i]? with
  | some (.new _ _) => true
  | _ => false

def ApartF (M : Value → Nat → Prop) (cl : List Fcl) (us : List Value) : Prop := ∀ i j, mineAt cl i = true → mineAt cl j = true → i ≠ j → ∀ g, M (us.getD i undef) g → ¬ M (us.getD j undef) g
def TopF (M : Value → Nat → Prop) (lo : Nat) (cl : List Fcl) (us : List Value) (w : World) : Prop := ∀ i, mineAt cl i = true → ∀ g, M (us.getD i undef) g → lo ≤ g ∧ g < w.heap.size
def NewF (cl : List Fcl) (us : List Value) : Prop := ∀ i j, newAt cl i = true → newAt cl j = true → i ≠ j → us.getD i undef ≠ us.getD j undef
def OnlyF (cl : List Fcl) (W w : World) : Prop := ∀ g, g < W.heap.size → g ∉ oldsF cl → w.heap[g]? = W.heap[g]?
structure EndN (cl : List Fcl) (us : List Value) (W w : World) : Prop where
  new : NewF cl us
  only : OnlyF cl W w
theorem back_of {e : Edge} {i : Nat} (h : (!Region.binds .any e || decide (e.on < i)) = true) (hb : Region.binds .any e = true) : e.on < i := by
  rw [hb] at h
  simpa using h
theorem wpAny_inv2 (I : Array Bool → Act → World → Prop) (hback : (ops.toList.zipIdx.all fun (o, i) => o.after.all fun e => !Region.binds .any e || decide (e.on < i)) = true)
    (hstep : ∀ L a w, I L a w → ∀ i o, ops[i]? = some o → L.size = ops.size → L.getD i true = false → (∀ e ∈ o.after, Region.binds .any e = true → L.getD e.on false = true) →
      (Region.wanted o (yielded ops a.tmps) = true → o.wp P a w (I (L.setIfInBounds i true)) Q) ∧ (Region.wanted o (yielded ops a.tmps) = false → I (L.setIfInBounds i true) (a.put o.dst undef) w))
    (hend : ∀ L a w, I L a w → (∀ i, i < ops.size → L.getD i false = true) → Q .normal a w) :
    ∀ (fuel : Nat) (L : Array Bool) (a : Act) (w : World), L.size = ops.size → unlisted ops.size L ≤ fuel → I L a w → wpAny P .any ops Q fuel L a w := by
  have hall : ∀ L : Array Bool, L.size = ops.size → Region.ready .any ops L = [] → ∀ i, i < ops.size → L.getD i false = true := fun L hs hr i => by
    induction i using Nat.strongRecOn with
    | _ i ih =>
      intro hi
      cases hb : L.getD i false with
      | true => rfl
      | false =>
        exfalso
        have hmem : i ∈ Region.ready .any ops L := by
          rw [mem_ready]
          have hl : i < L.size := by omega
          refine ⟨by simp [hl] at hb ⊢; exact hb, ops[i], Array.getElem?_eq_getElem hi, fun e he hbe => ?_⟩
          have h1 := List.all_eq_true.1 hback (ops[i], i) (by
            rw [List.mem_zipIdx_iff_getElem?]; simp [hi])
          simp only [Array.all_eq_true_iff_forall_mem] at h1
          have h2 := back_of (h1 e he) hbe
          exact ih e.on h2 (by omega)
        rw [hr] at hmem; cases hmem
  intro fuel
  induction fuel with
  | zero =>
    intro L a w hs hu hI
    have h0 := unlisted_zero (Nat.le_zero.1 hu)
    refine ⟨?_, hend L a w hI h0⟩
    cases hr : Region.ready .any ops L with
    | nil => rfl
    | cons i rest =>
      have hm : i ∈ Region.ready .any ops L := by rw [hr]; simp
      obtain ⟨h1, o, ho, _⟩ := mem_ready.1 hm
      have hi : i < ops.size := (Array.getElem?_eq_some_iff.1 ho).1
      have h2 := h0 i hi
      have hl : i < L.size := by omega
      simp [hl] at h1 h2
      rw [h1] at h2; cases h2
  | succ fuel ih =>
    intro L a w hs hu hI
    refine ⟨fun hr => hend L a w hI (hall L hs hr), fun i hi => ?_⟩
    obtain ⟨h1, o, ho, hp⟩ := mem_ready.1 hi
    have hlt : i < ops.size := (Array.getElem?_eq_some_iff.1 ho).1
    have hnext : ∀ a' w', I (L.setIfInBounds i true) a' w' → wpAny P .any ops Q fuel (L.setIfInBounds i true) a' w' := fun a' w' h' => ih _ a' w' (by simp [hs]) (by
      have := unlisted_set hlt hs h1
      omega) h'
    have hst := hstep L a w hI i o ho hs h1 hp
    unfold wpOp
    simp only [ho]
    cases hw : Region.wanted o (yielded ops a.tmps) with
    | true =>
      rw [if_pos rfl]
      exact .inl (Oper.wp_mono hnext (hst.1 hw))
    | false =>
      rw [if_neg (by simp)]
      exact hnext _ _ (hst.2 hw)

def FitsAt (cl : List Fcl) (us : Nat → Value) (j : Nat) : Prop := match cl[j]? with
  | some (.val v _) => us j = v
  | some (.any _ _ _) => True
  | some (.new _ _) => ∃ b, us j = .pointer (some ⟨b, 0, none⟩)
  | _ => us j = undef

structure FI (ops : Array Oper) (cl : List Fcl) (a0 : Act) (B : Nat) (Ts : List TypeId) (W : World) (M : Value → Nat → Prop) (us : Nat → Value) (L : Array Bool) (a : Act) (w : World) : Prop where
  defers : a.defers = a0.defers
  size : a.tmps.size = a0.tmps.size
  out : ∀ t, (∀ (i : Nat) o, ops[i]? = some o → L.getD i false = true → o.dst ≠ some t) → a.tmps[t]? = a0.tmps[t]?
  inn : ∀ (i : Nat) o d, ops[i]? = some o → L.getD i false = true → o.dst = some d → a.tmps[d]? = some (us i)
  fits : ∀ j, FitsAt cl us j
  below : Below B W w
  kept : KeptV B Ts W w
  closed : ∀ (i : Nat) o, ops[i]? = some o → L.getD i false = true → ∀ e ∈ o.after, Region.binds .any e = true → L.getD e.on false = true
  told : ∀ (i : Nat) m Φ ds, cl[i]? = some (.any m Φ ds) → L.getD i false = true → Φ (us i) w
  top : ∀ i, mineAt cl i = true → L.getD i false = true → ∀ g, M (us i) g → W.heap.size ≤ g ∧ g < w.heap.size
  apart : ∀ i j, mineAt cl i = true → mineAt cl j = true → i ≠ j → L.getD i false = true → L.getD j false = true → ∀ g, M (us i) g → ¬ M (us j) g
  new : ∀ (i : Nat) T n, cl[i]? = some (.new T n) → L.getD i false = true → ∃ b, us i = .pointer (some ⟨b, 0, none⟩) ∧ W.heap.size ≤ b ∧ ∃ cs, Blk w b T cs ∧ cs.size = n
  news : ∀ i j, newAt cl i = true → newAt cl j = true → i ≠ j → L.getD i false = true → L.getD j false = true → us i ≠ us j
  put : ∀ (i : Nat) T n ia ic ds, cl[i]? = some (.put T n ia ic ds) → L.getD i false = true → L.getD ia false = true ∧ L.getD ic false = true ∧ ∃ b, us ia = .pointer (some ⟨b, 0, none⟩) ∧ Blk w b T (us ic).cells
  old : ∀ (i : Nat) b T cs o n ic ds, cl[i]? = some (.old b T cs o n ic ds) → (L.getD i false = true → L.getD ic false = true ∧ Blk w b T (setAll cs o (us ic).cells.toList)) ∧ (L.getD i false = false → Blk w b T cs)
  only : ∀ g, g < W.heap.size → g ∉ oldsF cl → w.heap[g]? = W.heap[g]?

theorem mineAt_iff {cl : List Fcl} {i : Nat} : mineAt cl i = true ↔ ∃ Φ ds, cl[i]? = some (.any true Φ ds) := by
  unfold mineAt
  constructor
  · intro h
    split at h
    · rename_i Φ ds e; exact ⟨Φ, ds, e⟩
    · cases h
  · rintro ⟨Φ, ds, e⟩; rw [e]
theorem newAt_iff {cl : List Fcl} {i : Nat} : newAt cl i = true ↔ ∃ T n, cl[i]? = some (.new T n) := by
  unfold newAt
  constructor
  · intro h
    split at h
    · rename_i T n e; exact ⟨T, n, e⟩
    · cases h
  · rintro ⟨T, n, e⟩; rw [e]

def fupd (us : Nat → Value) (i : Nat) (u : Value) : Nat → Value := fun j => if j = i then u else us j
theorem fupd_same (us : Nat → Value) (i : Nat) (u : Value) : fupd us i u i = u := by simp [fupd]
theorem fupd_ne (us : Nat → Value) {i j : Nat} (u : Value) (h : j ≠ i) : fupd us i u j = us j := by simp [fupd, h]

section
variable {cl : List Fcl} {a0 : Act} {B : Nat} {Ts : List TypeId} {W : World} {M : Value → Nat → Prop} {us : Nat → Value} {L : Array Bool} {a : Act} {w : World}
theorem FI.tmps {i : Nat} {o : Oper} (h : FI ops cl a0 B Ts W M us L a w) (hi : ops[i]? = some o) (hL : i < L.size) (hun : L.getD i false = false)
    (hdist : ∀ (i j : Nat) oi oj d, ops[i]? = some oi → ops[j]? = some oj → oi.dst = some d → oj.dst = some d → i = j) (hroom : ∀ (i : Nat) o d, ops[i]? = some o → o.dst = some d → d < a0.tmps.size)
    (v : Value) (us' : Nat → Value) (hus : ∀ j, j ≠ i → us' j = us j) (hv : ∀ d, o.dst = some d → v = us' i) :
    (a.put o.dst v).defers = a0.defers ∧ (a.put o.dst v).tmps.size = a0.tmps.size ∧
    (∀ t, (∀ (k : Nat) ok, ops[k]? = some ok → (L.setIfInBounds i true).getD k false = true → ok.dst ≠ some t) → (a.put o.dst v).tmps[t]? = a0.tmps[t]?) ∧
    (∀ (k : Nat) ok d, ops[k]? = some ok → (L.setIfInBounds i true).getD k false = true → ok.dst = some d → (a.put o.dst v).tmps[d]? = some (us' k)) := by
  refine ⟨?_, ?_, fun t ht => ?_, fun k ok d hk hLk hd => ?_⟩
  · cases hd : o.dst <;> simp [Act.put, h.defers]
  · cases hd : o.dst <;> simp [Act.put, h.size]
  · have h1 := ht i o hi ((getD_set_iff hL).2 (.inl rfl))
    have h2 := h.out t fun k ok hk hLk => ht k ok hk ((getD_set_iff hL).2 (.inr hLk))
    cases hd : o.dst with
    | none => exact h2
    | some d =>
      rw [← h2]
      simp only [Act.put]
      exact Array.getElem?_setIfInBounds_ne (fun e => h1 (by rw [hd, e]))
  · rcases (getD_set_iff hL).1 hLk with rfl | hLk2
    · rw [hi] at hk; injection hk with hk; subst hk
      rw [hd, ← hv d hd]
      have := hroom k o d hi hd
      simp [Act.put, h.size, this]
    · have hne : k ≠ i := fun e => by rw [e, hun] at hLk2; cases hLk2
      rw [hus k hne, ← h.inn k ok d hk hLk2 hd]
      cases hdo : o.dst with
      | none => rfl
      | some d' =>
        simp only [Act.put]
        exact Array.getElem?_setIfInBounds_ne (fun e => hne (hdist k i ok o d hk hi hd (by rw [hdo, e])))
theorem FI.eval {i : Nat} {o : Oper} {c : Fcl} (h : FI ops cl a0 B Ts W M us L a w) (hi : ops[i]? = some o) (hc : cl[i]? = some c) (hns : c.isSkip = false) (hreads : readsF ops cl = true) (hdst : (ops.toList.filterMap (·.dst)).Nodup)
    (hback : (ops.toList.zipIdx.all fun (o, i) => o.after.all fun e => !Region.binds .any e || decide (e.on < i)) = true)
    (hroom : ∀ (i : Nat) o d, ops[i]? = some o → o.dst = some d → d < a0.tmps.size) (hp : ∀ e ∈ o.after, Region.binds .any e = true → L.getD e.on false = true)
    (l : List Value) (hl : ∀ j, j < i → l.getD j undef = us j) :
    (∀ cs b, o.op ≠ .select cs b) ∧ ∀ x ∈ o.op.operands, a.eval x = (freeAct ops a0 l).eval x := by
  have hlt : i < ops.size := (Array.getElem?_eq_some_iff.1 hi).1
  have h1 := List.all_eq_true.1 hreads i (List.mem_range.2 hlt)
  simp only [hi, hc, hns, Bool.false_or, Bool.and_eq_true] at h1
  obtain ⟨hsel, hops⟩ := h1
  refine ⟨fun cs b e => by rw [e] at hsel; simp at hsel, fun x hx => ?_⟩
  rw [Array.all_eq_true_iff_forall_mem] at hops
  have h2 := hops x hx
  cases x with
  | tmp t =>
    simp only [Bool.or_eq_true] at h2
    rcases h2 with h2 | h2
    · rw [Array.all_eq_true_iff_forall_mem] at h2
      have hno : ∀ (k : Nat) ok, ops[k]? = some ok → ok.dst ≠ some t := fun k ok hk e => by
        have := h2 ok (Array.mem_of_getElem? hk)
        simp [e] at this
      have e1 := h.out t fun k ok hk _ => hno k ok hk
      have e2 := fill_other (pairs ops fun i => some (l.getD i undef)) t a0.tmps fun p hp e => by
        obtain ⟨k, ok, hk, hd, _⟩ := pairs_mem hp
        exact hno k ok hk (by rw [hd, e])
      show a.tmps.getD t undef = (freeAct ops a0 l).tmps.getD t undef
      rw [Array.getD_eq_getD_getElem?, Array.getD_eq_getD_getElem?, e1]
      exact (congrArg (fun x : Option Value => x.getD undef) e2).symm
    · rw [← Array.any_toList, List.any_eq_true] at h2
      obtain ⟨e, he, h3⟩ := h2
      rw [Array.mem_toList_iff] at he
      simp only [Bool.and_eq_true, beq_iff_eq] at h3
      obtain ⟨hb, hd⟩ := h3
      cases hoe : ops[e.on]? with
      | none => simp [hoe] at hd
      | some oe =>
        simp only [hoe, Option.bind_some] at hd
        have e1 := h.inn e.on oe t hoe (hp e he hb) hd
        have e2 := fill_at (pairs ops fun i => some (l.getD i undef)) (pairs_nodup _ hdst) t (l.getD e.on undef) a0.tmps (hroom _ _ _ hoe hd) (pairs_has hoe hd rfl)
        have hlt2 : e.on < i := by
          have h4 := List.all_eq_true.1 hback (o, i) (by rw [List.mem_zipIdx_iff_getElem?]; simpa using hi)
          simp only [Array.all_eq_true_iff_forall_mem] at h4
          exact back_of (h4 e he) hb
        rw [hl _ hlt2] at e2
        show a.tmps.getD t undef = (freeAct ops a0 l).tmps.getD t undef
        rw [Array.getD_eq_getD_getElem?, Array.getD_eq_getD_getElem?, e1]
        exact (congrArg (fun x : Option Value => x.getD undef) e2).symm
  | _ => rfl
end

def upTo (us : Nat → Value) (i : Nat) : List Value := (List.range i).map us
theorem upTo_succ (us : Nat → Value) (i : Nat) : upTo us (i + 1) = upTo us i ++ [us i] := by simp [upTo, List.range_succ]
theorem upTo_get (us : Nat → Value) {i j : Nat} (h : j < i) : (upTo us i).getD j undef = us j := by simp [upTo, List.getD_eq_getElem?_getD, h]
def StepF (P : Program) (af : List Value → Act) (B : Nat) (Ts : List TypeId) (W : World) (M : Value → Nat → Prop) (cl : List Fcl) (us : List Value) (o : Oper) : Fcl → Prop
  | .val v ds => ∀ w, Below B W w → KeptV B Ts W w → DepF M cl us W w ds → o.wp P (af us) w (fun a' w' => a' = (af us).put o.dst v ∧ Below w.heap.size w w') (fun _ _ _ => False)
  | .any mine Φ ds => ∀ w, Below B W w → KeptV B Ts W w → DepF M cl us W w ds → o.wp P (af us) w (fun a' w' => ∃ u, a' = (af us).put o.dst u ∧ Φ u w' ∧ Below w.heap.size w w' ∧ (mine = true → ∀ g, M u g → w.heap.size ≤ g ∧ g < w'.heap.size)) (fun _ _ _ => False)
  | .new T n => AllocF P o T n
  | .put _ n ia ic ds => StoreF P (af us) o (us.getD ia undef) (us.getD ic undef) n ∧ ∀ w, Below B W w → KeptV B Ts W w → DepF M cl us W w (ic :: ds) → CellsN (us.getD ic undef) n
  | .old b _ _ k n ic ds => StoreF P (af us) o (.pointer (some ⟨b, k, none⟩)) (us.getD ic undef) n ∧ ∀ w, Below B W w → KeptV B Ts W w → DepF M cl us W w (ic :: ds) → CellsN (us.getD ic undef) n
  | .skip => True
theorem StepsF.get {af : List Value → Act} {B : Nat} {Ts : List TypeId} {W : World} {M : Value → Nat → Prop} {cl : List Fcl} {us : Nat → Value} : ∀ (os : List Oper) (cs : List Fcl) (k : Nat), (∀ j, cs[j]? = cl[k + j]?) → (∀ j, FitsAt cl us j) → StepsF P af B Ts W M cl (upTo us k) os cs → ∀ (i : Nat) o c, os[i]? = some o → cs[i]? = some c → StepF P af B Ts W M cl (upTo us (k + i)) o c
  | [], _, _, _, _, _, i, o, c, h1, _ => by simp at h1
  | _ :: _, [], _, _, _, _, i, o, c, _, h2 => by simp at h2
  | o' :: os, c' :: cs, k, hcs, hfit, h, i, o, c, h1, h2 => by
    have hk : cl[k]? = some c' := by have := hcs 0; simpa using this.symm
    have hf := hfit k
    unfold FitsAt at hf
    rw [hk] at hf
    have key : StepF P af B Ts W M cl (upTo us k) o' c' ∧ StepsF P af B Ts W M cl (upTo us (k + 1)) os cs := by
      rw [upTo_succ]
      cases c' with
      | val v ds => simp only at hf; rw [hf]; exact h
      | any m Φ ds => exact ⟨h.1, h.2 _⟩
      | new T n => obtain ⟨b, hb⟩ := hf; rw [hb]; exact ⟨h.1, h.2 b⟩
      | put T n ia ic ds => simp only at hf; rw [hf]; exact ⟨⟨h.1, h.2.1⟩, h.2.2⟩
      | old b T cs0 o n ic ds => simp only at hf; rw [hf]; exact ⟨⟨h.1, h.2.1⟩, h.2.2⟩
      | skip => simp only at hf; rw [hf]; exact ⟨trivial, h⟩
    cases i with
    | zero => simp at h1 h2; subst h1 h2; exact key.1
    | succ i =>
      have := StepsF.get os cs (k + 1) (fun j => by have := hcs (j + 1); simpa [Nat.add_assoc, Nat.add_comm 1 j] using this) hfit key.2 i o c (by simpa using h1) (by simpa using h2)
      rwa [show k + 1 + i = k + (i + 1) by omega] at this
theorem EndF.get {W : World} {K : List Value → Prop} {cl : List Fcl} {us : Nat → Value} : ∀ (cs : List Fcl) (k : Nat), (∀ j, cs[j]? = cl[k + j]?) → (∀ j, FitsAt cl us j) → (∀ (j : Nat) T n b, cl[j]? = some (.new T n) → us j = .pointer (some ⟨b, 0, none⟩) → W.heap.size ≤ b) → EndF W K (upTo us k) cs → K (upTo us (k + cs.length))
  | [], k, _, _, _, h => h
  | c :: cs, k, hcs, hfit, hnew, h => by
    have hk : cl[k]? = some c := by have := hcs 0; simpa using this.symm
    have hf := hfit k
    unfold FitsAt at hf
    rw [hk] at hf
    have key : EndF W K (upTo us (k + 1)) cs := by
      rw [upTo_succ]
      cases c with
      | val v ds => simp only at hf; rw [hf]; exact h
      | any m Φ ds => exact h _
      | new T n => obtain ⟨b, hb⟩ := hf; rw [hb]; exact h b (hnew k T n b hk hb)
      | put T n ia ic ds => simp only at hf; rw [hf]; exact h
      | old b T cs0 o n ic ds => simp only at hf; rw [hf]; exact h
      | skip => simp only at hf; rw [hf]; exact h
    have := EndF.get cs (k + 1) (fun j => by have := hcs (j + 1); simpa [Nat.add_assoc, Nat.add_comm 1 j] using this) hfit hnew key
    rwa [show k + 1 + cs.length = k + (c :: cs).length by simp; omega] at this
theorem StableF.get {B : Nat} {Ts : List TypeId} : ∀ (cs : List Fcl), StableF B Ts cs → ∀ (i : Nat) m Φ ds, cs[i]? = some (.any m Φ ds) → ∀ u w w', Φ u w → KeptV B Ts w w' → Φ u w'
  | [], _, i, _, _, _, h => by simp at h
  | c :: cs, hst, i, m, Φ, ds, h => by
    cases i with
    | zero => simp at h; subst h; exact hst.1
    | succ i =>
      have hst' : StableF B Ts cs := by cases c <;> first | exact hst.2 | exact hst
      exact StableF.get cs hst' i m Φ ds (by simpa using h)
theorem OldsF.get {B : Nat} {W w0 : World} : ∀ (cs : List Fcl), OldsF B W w0 cs → ∀ (i : Nat) b T c o n ic ds, cs[i]? = some (.old b T c o n ic ds) → B ≤ b ∧ b < W.heap.size ∧ Blk w0 b T c ∧ o + n ≤ c.size
  | [], _, i, _, _, _, _, _, _, _, h => by simp at h
  | c :: cs, hst, i, b, T, c0, o, n, ic, ds, h => by
    cases i with
    | zero => simp at h; subst h; exact hst.1
    | succ i =>
      have hst' : OldsF B W w0 cs := by cases c <;> first | exact hst.2 | exact hst
      exact OldsF.get cs hst' i b T c0 o n ic ds (by simpa using h)
theorem putsF_mem : ∀ (cl : List Fcl) (k : Nat) T n ia ic ds, cl[k]? = some (.put T n ia ic ds) → ia ∈ putsF cl
  | [], k, _, _, _, _, _, h => by simp at h
  | c :: cl, k, T, n, ia, ic, ds, h => by
    cases k with
    | zero => simp at h; subst h; simp [putsF]
    | succ k =>
      have := putsF_mem cl k T n ia ic ds (by simpa using h)
      cases c <;> simp [putsF, this]
theorem putsF_inj : ∀ (cl : List Fcl), (putsF cl).Nodup → ∀ (i j : Nat) T n ia ic ds T' n' ia' ic' ds', cl[i]? = some (.put T n ia ic ds) → cl[j]? = some (.put T' n' ia' ic' ds') → i ≠ j → ia ≠ ia'
  | [], _, i, _, _, _, _, _, _, _, _, _, _, _, h, _, _ => by simp at h
  | c :: cl, hn, i, j, T, n, ia, ic, ds, T', n', ia', ic', ds', hi, hj, hne => by
    have hn' : (putsF cl).Nodup := by cases c <;> first | exact hn | exact (List.nodup_cons.1 hn).2
    cases i with
    | zero =>
      cases j with
      | zero => exact absurd rfl hne
      | succ j =>
        simp at hi; subst hi
        intro e; subst e
        exact (List.nodup_cons.1 hn).1 (putsF_mem cl j _ _ _ _ _ (by simpa using hj))
    | succ i =>
      cases j with
      | zero =>
        simp at hj; subst hj
        intro e; subst e
        exact (List.nodup_cons.1 hn).1 (putsF_mem cl i _ _ _ _ _ (by simpa using hi))
      | succ j => exact putsF_inj cl hn' i j _ _ _ _ _ _ _ _ _ _ (by simpa using hi) (by simpa using hj) (by omega)
theorem oldsF_mem : ∀ (cl : List Fcl) (k : Nat) b T c o n ic ds, cl[k]? = some (.old b T c o n ic ds) → b ∈ oldsF cl
  | [], k, _, _, _, _, _, _, _, h => by simp at h
  | c :: cl, k, b, T, c0, o, n, ic, ds, h => by
    cases k with
    | zero => simp at h; subst h; simp [oldsF]
    | succ k =>
      have := oldsF_mem cl k b T c0 o n ic ds (by simpa using h)
      cases c <;> simp [oldsF, this]
theorem oldsF_inj : ∀ (cl : List Fcl), (oldsF cl).Nodup → ∀ (i j : Nat) b T c o n ic ds b' T' c' o' n' ic' ds', cl[i]? = some (.old b T c o n ic ds) → cl[j]? = some (.old b' T' c' o' n' ic' ds') → i ≠ j → b ≠ b'
  | [], _, i, _, _, _, _, _, _, _, _, _, _, _, _, _, _, _, h, _, _ => by simp at h
  | c :: cl, hn, i, j, b, T, c0, o, n, ic, ds, b', T', c', o', n', ic', ds', hi, hj, hne => by
    have hn' : (oldsF cl).Nodup := by cases c <;> first | exact hn | exact (List.nodup_cons.1 hn).2
    cases i with
    | zero =>
      cases j with
      | zero => exact absurd rfl hne
      | succ j =>
        simp at hi; subst hi
        intro e; subst e
        exact (List.nodup_cons.1 hn).1 (oldsF_mem cl j _ _ _ _ _ _ _ (by simpa using hj))
    | succ i =>
      cases j with
      | zero =>
        simp at hj; subst hj
        intro e; subst e
        exact (List.nodup_cons.1 hn).1 (oldsF_mem cl i _ _ _ _ _ _ _ (by simpa using hi))
      | succ j => exact oldsF_inj cl hn' i j _ _ _ _ _ _ _ _ _ _ _ _ _ _ (by simpa using hi) (by simpa using hj) (by omega)
theorem DepF.of {M : Value → Nat → Prop} {cl : List Fcl} {us : List Value} {W w : World} (hO : ∀ g, g < W.heap.size → g ∉ oldsF cl → w.heap[g]? = W.heap[g]?) : ∀ (ds : List Nat), (∀ j ∈ ds, j < 999 → ∀ m Φ ds', cl[j]? = some (.any m Φ ds') → Φ (us.getD j undef) w) → (∀ j ∈ ds, 1000 ≤ j → j < 1000000 → ∀ b T cs o n ic ds', cl[j - 1000]? = some (.old b T cs o n ic ds') → Blk w b T cs) → (∀ j ∈ ds, 1000000 ≤ j → ∀ g, M (us.getD ((j - 1000000) / 1000) undef) g → ¬ M (us.getD ((j - 1000000) % 1000) undef) g) → DepF M cl us W w ds
  | [], _, _, _ => trivial
  | j :: js, h, g, q => by
    refine ⟨?_, DepF.of hO js (fun k hk => h k (by simp [hk])) (fun k hk => g k (by simp [hk])) fun k hk => q k (by simp [hk])⟩
    by_cases hj3 : 1000000 ≤ j
    · rw [if_pos hj3]; exact q j (by simp) hj3
    rw [if_neg hj3]
    by_cases hj : 1000 ≤ j
    · rw [if_pos hj]
      split
      · rename_i b T cs o n ic ds' e; exact g j (by simp) hj (by omega) b T cs o n ic ds' e
      · trivial
    · rw [if_neg hj]
      by_cases hj2 : j = 999
      · rw [if_pos hj2]; exact hO
      · rw [if_neg hj2]
        split
        · rename_i m Φ ds' e; exact h j (by simp) (by omega) m Φ ds' e
        · trivial
theorem FactsF.of {us : List Value} {w : World} {cl : List Fcl} (h1 : ∀ (i : Nat) m Φ ds, cl[i]? = some (.any m Φ ds) → Φ (us.getD i undef) w) (h2 : ∀ (i : Nat) T n ia ic ds, cl[i]? = some (.put T n ia ic ds) → ∃ b, us.getD ia undef = .pointer (some ⟨b, 0, none⟩) ∧ Blk w b T (us.getD ic undef).cells)
    (h3 : ∀ (i : Nat) b T c o n ic ds, cl[i]? = some (.old b T c o n ic ds) → Blk w b T (setAll c o (us.getD ic undef).cells.toList)) : ∀ (cs : List Fcl) (k : Nat), (∀ j, cs[j]? = cl[k + j]?) → FactsF us w k cs
  | [], _, _ => trivial
  | c :: cs, k, hcs => by
    have hk : cl[k]? = some c := by have := hcs 0; simpa using this.symm
    have ih := FactsF.of h1 h2 h3 cs (k + 1) (fun j => by have := hcs (j + 1); simpa [Nat.add_assoc, Nat.add_comm 1 j] using this)
    cases c with
    | any m Φ ds => exact ⟨h1 k m Φ ds hk, ih⟩
    | put T n ia ic ds => exact ⟨h2 k T n ia ic ds hk, ih⟩
    | old b T c o n ic ds => exact ⟨h3 k b T c o n ic ds hk, ih⟩
    | _ => exact ih

theorem there_at {w : World} {b : Nat} {T : TypeId} {cs : Array Value} (h : Blk w b T cs) {o n : Nat} (hn : o + n ≤ cs.size) : w.there b o n := fun j hj => by
  refine ⟨by rw [h.cell]; simp; omega, h.frozen _⟩
theorem reach_or {L : Array Bool} (hcl : ∀ (i : Nat) o, ops[i]? = some o → L.getD i false = true → ∀ e ∈ o.after, Region.binds .any e = true → L.getD e.on false = true) {k : Nat} {o : Oper} (hp : ∀ e ∈ o.after, Region.binds .any e = true → L.getD e.on false = true)
    (h : (edgeB o k || reachB ops 4 o k) = true) : L.getD k false = true := by
  rw [Bool.or_eq_true] at h
  rcases h with h | h
  · obtain ⟨e, he, hb, rfl⟩ := any_edge h
    exact hp e he hb
  · exact reach_done hcl 4 o hp h

theorem reach_lt (hback : (ops.toList.zipIdx.all fun (o, i) => o.after.all fun e => !Region.binds .any e || decide (e.on < i)) = true) {i j : Nat} {o : Oper} (hi : ops[i]? = some o) (h : (edgeB o j || reachB ops 4 o j) = true) : j < i := by
  have hlo : ∀ (k : Nat) o', ops[k]? = some o' → ∀ e ∈ o'.after, Region.binds .any e = true → e.on < k := fun k o' hk e he hb => by
    have h7 := List.all_eq_true.1 hback (o', k) (by rw [List.mem_zipIdx_iff_getElem?]; simpa using hk)
    simp only [Array.all_eq_true_iff_forall_mem] at h7
    exact back_of (h7 e he) hb
  have hreach : ∀ (f : Nat) (o' : Oper) (k : Nat), ops[k]? = some o' → reachB ops f o' j = true → j < k := by
    intro f
    induction f with
    | zero => intro o' k _ h4; simp [reachB] at h4
    | succ f ih =>
      intro o' k hk h4
      unfold reachB at h4
      rw [← Array.any_toList, List.any_eq_true] at h4
      obtain ⟨e, he, h5⟩ := h4
      rw [Array.mem_toList_iff] at he
      simp only [Bool.and_eq_true, Bool.or_eq_true, beq_iff_eq] at h5
      have h6 := hlo k o' hk e he h5.1
      rcases h5.2 with h7 | h7
      · omega
      · cases ho' : ops[e.on]? with
        | none => simp [ho'] at h7
        | some o2 =>
          rw [ho'] at h7
          have := ih o2 e.on ho' h7
          omega
  rw [Bool.or_eq_true] at h
  rcases h with h | h
  · obtain ⟨e, he, hb, e2⟩ := any_edge h
    have := hlo i o hi e he hb
    omega
  · exact hreach 4 o i hi h

theorem wp_region_free {id : Nat} {a0 : Act} {w0 : World} (cl : List Fcl) (B : Nat) (W : World) (Ts : List TypeId) (M : Value → Nat → Prop) (af : List Value → Act) (hm : P.follows .mixedOrders = true) (hB : B ≤ W.heap.size) (hW : Below B W w0) (hK : KeptV B Ts W w0) (hlen : cl.length = ops.size)
    (hback : (ops.toList.zipIdx.all fun (o, i) => o.after.all fun e => !Region.binds .any e || decide (e.on < i)) = true) (hguard : guardsF ops cl = true)
    (hdst : nodupB (ops.toList.filterMap (·.dst)) = true) (hroom : (ops.toList.filterMap (·.dst)).all (fun d => decide (d < a0.tmps.size)) = true) (hreads : readsF ops cl = true)
    (hdeps : depsB ops cl = true) (hputs : nodupB (putsF cl) = true) (hnews : newsF Ts cl = true) (haf : af = freeAct ops a0) (holds : (oldsF cl).Nodup)
    (hst : StableF B Ts cl) (hold : OldsF B W w0 cl) (hsteps : StepsF P af B Ts W M cl [] ops.toList cl)
    (hend : EndF W (fun us => ∀ w, Below B W w → KeptV B Ts W w → FactsF us w 0 cl → ApartF M cl us → TopF M W.heap.size cl us w → EndN cl us W w → Q .normal (af us) w) [] cl) (hO : ∀ g, g < W.heap.size → g ∉ oldsF cl → w0.heap[g]? = W.heap[g]? := by intros; rfl) :
    (Code.region id ops true).wp P Q a0 w0 := by
  subst haf
  have hnd := nodupB_spec hdst
  have hdist := dst_inj hnd
  have hroom' : ∀ (i : Nat) o d, ops[i]? = some o → o.dst = some d → d < a0.tmps.size := fun i o d hi hd =>
    of_decide_eq_true (List.all_eq_true.1 hroom d (by rw [List.mem_filterMap]; exact ⟨o, Array.mem_toList_iff.2 (Array.mem_of_getElem? hi), hd⟩))
  have hclAt : ∀ i, i < ops.size → ∃ c, cl[i]? = some c := fun i hi => ⟨cl[i]'(by omega), List.getElem?_eq_getElem (by omega)⟩
  have hinOps : ∀ {i : Nat} {c : Fcl}, cl[i]? = some c → i < ops.size := fun {i c} h => by
    have := (List.getElem?_eq_some_iff.1 h).1
    omega
  have hnewT : ∀ {i : Nat} {T : TypeId} {n : Nat}, cl[i]? = some (.new T n) → T ∈ Ts := fun {i T n} h => by
    have := List.all_eq_true.1 hnews _ (List.mem_of_getElem? h)
    simpa using this
  have holdT : ∀ {i : Nat} {b : Nat} {T : TypeId} {cs : Array Value} {o n ic : Nat} {ds : List Nat}, cl[i]? = some (.old b T cs o n ic ds) → T ∈ Ts := fun {i b T cs o n ic ds} h => by
    have := List.all_eq_true.1 hnews _ (List.mem_of_getElem? h)
    simpa using this
  have hputN : ∀ {i : Nat} {T : TypeId} {n ia ic : Nat} {ds : List Nat}, cl[i]? = some (.put T n ia ic ds) → cl[ia]? = some (.new T n) := fun {i T n ia ic ds} h => by
    have h1 := List.all_eq_true.1 hnews _ (List.mem_of_getElem? h)
    simp only at h1
    split at h1
    · rename_i T' n' e
      simp only [Bool.and_eq_true, beq_iff_eq] at h1
      rw [e, h1.1, h1.2]
    · cases h1
  refine wp_region_any hm (wpAny_inv2 (fun L a w => ∃ us, FI ops cl a0 B Ts W M us L a w) hback ?_ ?_ _ _ _ _ (by simp) ?_ ?_)
  · rintro L a w ⟨us, h⟩ i o hi hs hun hp
    have hlt : i < ops.size := (Array.getElem?_eq_some_iff.1 hi).1
    have hL : i < L.size := by omega
    have hun' : L.getD i false = false := by simp [hL] at hun ⊢; exact hun
    have hkeep : ∀ j, j ≠ i → (L.setIfInBounds i true).getD j false = L.getD j false := fun j hj => getD_set_ne false (Ne.symm hj)
    have hne : ∀ j, L.getD j false = true → j ≠ i := fun j hj e => by rw [e, hun'] at hj; cases hj
    obtain ⟨c, hc⟩ := hclAt i hlt
    have hclosed : ∀ (j : Nat) oj, ops[j]? = some oj → (L.setIfInBounds i true).getD j false = true → ∀ e ∈ oj.after, Region.binds .any e = true → (L.setIfInBounds i true).getD e.on false = true := fun j oj hj hLj e he hb => by
      rw [getD_set_iff hL] at hLj ⊢
      rcases hLj with rfl | hLj
      · rw [hi] at hj; injection hj with hj; subst hj
        exact .inr (hp e he hb)
      · exact .inr (h.closed j oj hj hLj e he hb)
    have hwant : Region.wanted o (yielded ops a.tmps) = !c.isSkip := by
      have h1 := List.all_eq_true.1 hguard i (List.mem_range.2 hlt)
      simp only [hi, hc] at h1
      unfold Region.wanted
      cases hg : o.guard with
      | none => simp only [hg] at h1; exact h1.symm
      | some jw =>
        obtain ⟨j, want⟩ := jw
        simp only [hg, Bool.and_eq_true] at h1
        obtain ⟨⟨hjd, hje⟩, hjc⟩ := h1
        have hLj := reach_or h.closed hp hje
        obtain ⟨d, hd⟩ := Option.isSome_iff_exists.1 hjd
        obtain ⟨oj, hoj, hdj⟩ := bind_dst hd
        have htj := h.inn j oj d hoj hLj hdj
        have hfj := h.fits j
        unfold FitsAt at hfj
        simp only [yielded, hd, Option.bind_some, htj]
        cases hcj : cl[j]? with
        | none => simp [hcj] at hjc
        | some cj =>
          rw [hcj] at hfj hjc
          cases cj with
          | val v ds =>
            simp only at hfj hjc
            rw [hfj]
            cases v <;> simp at hjc ⊢
            rw [← hjc]
          | skip =>
            simp only at hfj hjc
            rw [hfj, hjc]
            simp [undef]
          | _ => simp at hjc
    have hlist : ∀ j, j < i → (upTo us i).getD j undef = us j := fun j hj => upTo_get us hj
    have hstep := StepsF.get ops.toList cl 0 (fun j => by simp) h.fits hsteps i o c (by simpa using hi) hc
    rw [Nat.zero_add] at hstep
    have hdep : ∀ ds, (∀ j ∈ ds, j ∈ c.deps) → DepF M cl (upTo us i) W w ds := fun ds hds => DepF.of h.only ds (fun j hj hjs m Φ ds' hcj => by
      have h1 := List.all_eq_true.1 hdeps i (List.mem_range.2 hlt)
      simp only [hi, hc, Bool.and_eq_true] at h1
      have h2 := List.all_eq_true.1 h1.1 j (hds j hj)
      rw [if_neg (by omega), if_neg (by omega), show (j == 999) = false by simp; omega, Bool.false_or] at h2
      have hLj := reach_or h.closed hp h2
      have hji : j < i := reach_lt hback hi h2
      rw [hlist j hji]
      exact h.told j m Φ ds' hcj hLj) (fun j hj hjs hjm b T cs o' n ic ds' hcj => by
      have h1 := List.all_eq_true.1 hdeps i (List.mem_range.2 hlt)
      simp only [hi, hc, Bool.and_eq_true] at h1
      have h2 := List.all_eq_true.1 h1.1 j (hds j hj)
      rw [if_neg (by omega), if_pos hjs] at h2
      refine (h.old (j - 1000) b T cs o' n ic ds' hcj).2 ?_
      cases hLj : L.getD (j - 1000) false with
      | false => rfl
      | true =>
        cases hoj : ops[j - 1000]? with
        | none => rw [hoj] at h2; cases h2
        | some oj =>
          rw [hoj] at h2
          have := reach_or h.closed (h.closed _ _ hoj hLj) h2
          rw [hun'] at this
          cases this) fun j hj hjs => by
      have h1 := List.all_eq_true.1 hdeps i (List.mem_range.2 hlt)
      simp only [hi, hc, Bool.and_eq_true] at h1
      have h2 := List.all_eq_true.1 h1.1 j (hds j hj)
      rw [if_pos hjs] at h2
      unfold pairB at h2
      rw [Bool.and_eq_true, Bool.and_eq_true, Bool.and_eq_true, Bool.and_eq_true] at h2
      obtain ⟨⟨⟨⟨m1, m2⟩, m3⟩, m4⟩, m5⟩ := h2
      rw [hlist _ (reach_lt hback hi m4), hlist _ (reach_lt hback hi m5)]
      exact h.apart _ _ m1 m2 (by simpa using m3) (reach_or h.closed hp m4) (reach_or h.closed hp m5)
    have hLdep : ∀ j ∈ c.hard, L.getD j false = true := fun j hj => by
      have h1 := List.all_eq_true.1 hdeps i (List.mem_range.2 hlt)
      simp only [hi, hc, Bool.and_eq_true] at h1
      exact reach_or h.closed hp (Bool.and_eq_true_iff.1 (List.all_eq_true.1 h1.2 j hj)).2
    have hdepLt : ∀ j ∈ c.hard, j < i := fun j hj => by
      have h1 := List.all_eq_true.1 hdeps i (List.mem_range.2 hlt)
      simp only [hi, hc, Bool.and_eq_true] at h1
      exact reach_lt hback hi (Bool.and_eq_true_iff.1 (List.all_eq_true.1 h1.2 j hj)).2
    -- what stays when memory grows alone and the values of what is done stay
    have grow : ∀ (us' : Nat → Value) (w' : World), Below w.heap.size w w' → (∀ j, j ≠ i → us' j = us j) → (∀ j, FitsAt cl us' j) → ∀ v, (∀ d, o.dst = some d → v = us' i) → (∀ T n, cl[i]? = some (.new T n) → ∃ b, us' i = .pointer (some ⟨b, 0, none⟩) ∧ w.heap.size ≤ b ∧ ∃ cs, Blk w' b T cs ∧ cs.size = n) →
        (∀ m Φ ds, cl[i]? = some (.any m Φ ds) → Φ (us' i) w') → (mineAt cl i = true → ∀ g, M (us' i) g → w.heap.size ≤ g ∧ g < w'.heap.size) → (∀ T n ia ic ds, cl[i]? ≠ some (.put T n ia ic ds)) → (∀ b T cs k n ic ds, cl[i]? ≠ some (.old b T cs k n ic ds)) →
        FI ops cl a0 B Ts W M us' (L.setIfInBounds i true) (a.put o.dst v) w' := fun us' w' hb hus hfit v hv hnew htold hmine hnp hno => by
      obtain ⟨t1, t2, t3, t4⟩ := h.tmps hi hL hun' hdist hroom' v us' hus hv
      refine ⟨t1, t2, t3, t4, hfit, h.below.trans (hb.mono (Nat.le_trans hB h.below.size)), h.kept.trans (KeptV.of_below hb), hclosed, ?_, ?_, ?_, ?_, ?_, ?_, ?_, fun g hg hn => (hb.block g (Nat.lt_of_lt_of_le hg h.kept.size)).trans (h.only g hg hn)⟩
      · intro k m Φ ds hk hLk
        rcases (getD_set_iff hL).1 hLk with rfl | hLk
        · exact htold m Φ ds hk
        · rw [hus k (hne k hLk)]
          exact StableF.get cl hst k m Φ ds hk _ _ _ (h.told k m Φ ds hk hLk) (KeptV.of_below hb)
      · intro k hk hLk g hg
        rcases (getD_set_iff hL).1 hLk with rfl | hLk
        · have := hmine hk g hg
          have := h.below.size
          omega
        · rw [hus k (hne k hLk)] at hg
          have := h.top k hk hLk g hg
          have := hb.size
          omega
      · intro k j hk hj hkj hLk hLj g hg hg2
        rcases (getD_set_iff hL).1 hLk with rfl | hLk2
        · rcases (getD_set_iff hL).1 hLj with rfl | hLj2
          · exact hkj rfl
          · rw [hus j (hne j hLj2)] at hg2
            have := hmine hk g hg
            have := h.top j hj hLj2 g hg2
            omega
        · rcases (getD_set_iff hL).1 hLj with rfl | hLj2
          · rw [hus k (hne k hLk2)] at hg
            have := hmine hj g hg2
            have := h.top k hk hLk2 g hg
            omega
          · rw [hus k (hne k hLk2)] at hg
            rw [hus j (hne j hLj2)] at hg2
            exact h.apart k j hk hj hkj hLk2 hLj2 g hg hg2
      · intro k T n hk hLk
        rcases (getD_set_iff hL).1 hLk with rfl | hLk
        · obtain ⟨b, h1, h2, h3⟩ := hnew T n hk
          exact ⟨b, h1, Nat.le_trans h.below.size h2, h3⟩
        · rw [hus k (hne k hLk)]
          obtain ⟨b, h1, h2, cs, h3, h4⟩ := h.new k T n hk hLk
          exact ⟨b, h1, h2, cs, h3.below hb h3.lt, h4⟩
      · intro k j hk hj hkj hLk hLj
        have hfar : ∀ m, newAt cl m = true → L.getD m false = true → newAt cl i = true → us m ≠ us' i := fun m hm hLm hin e => by
          obtain ⟨T, n, hm'⟩ := newAt_iff.1 hm
          obtain ⟨T', n', hi'⟩ := newAt_iff.1 hin
          obtain ⟨b, h1, h2, cs, h3, h4⟩ := h.new m T n hm' hLm
          obtain ⟨b', h1', h2', _⟩ := hnew T' n' hi'
          rw [h1, h1'] at e
          injection e with e
          injection e with e
          injection e with e
          have := h3.lt
          omega
        rcases (getD_set_iff hL).1 hLk with rfl | hLk2
        · rcases (getD_set_iff hL).1 hLj with rfl | hLj2
          · exact absurd rfl hkj
          · rw [hus j (hne j hLj2)]
            exact Ne.symm (hfar j hj hLj2 hk)
        · rcases (getD_set_iff hL).1 hLj with rfl | hLj2
          · rw [hus k (hne k hLk2)]
            exact hfar k hk hLk2 hj
          · rw [hus k (hne k hLk2), hus j (hne j hLj2)]
            exact h.news k j hk hj hkj hLk2 hLj2
      · intro k T n ia ic ds hk hLk
        rcases (getD_set_iff hL).1 hLk with rfl | hLk
        · exact absurd hk (hnp _ _ _ _ _)
        · obtain ⟨h1, h2, b, h3, h4⟩ := h.put k T n ia ic ds hk hLk
          exact ⟨(getD_set_iff hL).2 (.inr h1), (getD_set_iff hL).2 (.inr h2), b, by rw [hus ia (hne ia h1)]; exact h3, by rw [hus ic (hne ic h2)]; exact h4.below hb h4.lt⟩
      · intro k b T cs k0 n ic ds hk
        have hki : k ≠ i := fun e => by subst e; exact hno _ _ _ _ _ _ _ hk
        rw [hkeep k hki]
        obtain ⟨h1, h2⟩ := h.old k b T cs k0 n ic ds hk
        refine ⟨fun hLk => ?_, fun hLk => ?_⟩
        · obtain ⟨h3, h4⟩ := h1 hLk
          exact ⟨(getD_set_iff hL).2 (.inr h3), by rw [hus ic (hne ic h3)]; exact h4.below hb h4.lt⟩
        · exact (h2 hLk).below hb (h2 hLk).lt
    have fitsSame : ∀ u, (∃ m Φ ds, c = .any m Φ ds) ∨ (∃ T n, c = .new T n ∧ ∃ b, u = .pointer (some ⟨b, 0, none⟩)) → ∀ j, FitsAt cl (fupd us i u) j := fun u hu j => by
      by_cases e : j = i
      · subst e
        unfold FitsAt
        rw [hc]
        rcases hu with ⟨m, Φ, ds, rfl⟩ | ⟨T, n, rfl, b, rfl⟩
        · trivial
        · exact ⟨b, fupd_same _ _ _⟩
      · have := h.fits j
        unfold FitsAt at this ⊢
        rw [fupd_ne _ _ e]
        exact this
    have hfi := h.fits i
    unfold FitsAt at hfi
    rw [hc] at hfi
    refine ⟨fun hw => ?_, fun hw => ?_⟩
    · rw [hwant] at hw
      have hns : c.isSkip = false := by simpa using hw
      obtain ⟨hsel, hev⟩ := h.eval hi hc hns hreads hnd hback hroom' hp (upTo us i) hlist
      cases c with
      | skip => cases hns
      | val v ds =>
        have h1 := Oper.wp_mono (K' := fun a' w' => ∃ u, a' = (freeAct ops a0 (upTo us i)).put o.dst u ∧ ((∀ d, o.dst = some d → u = v) ∧ Below w.heap.size w w')) (fun a' w' ⟨e, hb⟩ => ⟨v, e, fun _ _ => rfl, hb⟩) (hstep w h.below h.kept (hdep ds fun j hj => hj))
        unfold Oper.wp at h1
        rw [← execOp_congr o hsel hev] at h1
        have h2 := upon_step (a2 := a) (Q := Q) (by intro d hd; simp only [freeAct, fill_size]; exact hroom' i o d hi hd) h1
        refine Oper.wp_mono ?_ h2
        rintro a' w' ⟨u, rfl, hu, hb⟩
        have huv : a.put o.dst u = a.put o.dst v := by
          cases hd : o.dst with
          | none => rfl
          | some d => rw [hu d hd]
        rw [huv]
        simp only at hfi
        exact ⟨us, grow us w' hb (fun _ _ => rfl) h.fits v (fun _ _ => hfi.symm) (fun T n e => by rw [hc] at e; cases e) (fun m Φ ds e => by rw [hc] at e; cases e) (fun hmi => by obtain ⟨Φ, ds, e⟩ := mineAt_iff.1 hmi; rw [hc] at e; cases e) (fun _ _ _ _ _ e => by rw [hc] at e; cases e) (fun _ _ _ _ _ _ _ e => by rw [hc] at e; cases e)⟩
      | any m Φ ds =>
        have h1 := hstep w h.below h.kept (hdep ds fun j hj => hj)
        unfold Oper.wp at h1
        rw [← execOp_congr o hsel hev] at h1
        have h2 := upon_step (a2 := a) (Q := Q) (by intro d hd; simp only [freeAct, fill_size]; exact hroom' i o d hi hd) h1
        refine Oper.wp_mono ?_ h2
        rintro a' w' ⟨u, rfl, hΦ, hb, hmine⟩
        exact ⟨fupd us i u, grow (fupd us i u) w' hb (fun j hj => fupd_ne _ _ hj) (fitsSame u (.inl ⟨m, Φ, ds, rfl⟩)) u (fun _ _ => (fupd_same _ _ _).symm) (fun T n e => by rw [hc] at e; cases e)
          (fun m' Φ' ds' e => by rw [hc] at e; injection e with e; injection e with e1 e2 e3; rw [fupd_same, ← e2]; exact hΦ)
          (fun hmi => by obtain ⟨Φ', ds', e⟩ := mineAt_iff.1 hmi; rw [hc] at e; injection e with e; injection e with e1 e2 e3; rw [fupd_same]; exact hmine e1) (fun _ _ _ _ _ e => by rw [hc] at e; cases e) (fun _ _ _ _ _ _ _ e => by rw [hc] at e; cases e)⟩
      | new T n =>
        obtain ⟨z, hz, hrun⟩ := hstep
        unfold Oper.wp
        rw [hrun, Oper.upon_value]
        exact ⟨fupd us i (.pointer (some ⟨w.heap.size, 0, none⟩)), grow (fupd us i (.pointer (some ⟨w.heap.size, 0, none⟩))) (w.alloc (.cells z T)) ((Below.refl _ _).alloc (Nat.le_refl _) _) (fun j hj => fupd_ne _ _ hj) (fitsSame _ (.inr ⟨T, n, rfl, _, rfl⟩)) _ (fun _ _ => (fupd_same _ _ _).symm)
          (fun T' n' e => by rw [hc] at e; injection e with e; injection e with e1 e2; subst e1 e2; exact ⟨_, fupd_same _ _ _, Nat.le_refl _, z, Blk.new w T z, hz⟩)
          (fun m Φ ds e => by rw [hc] at e; cases e) (fun hmi => by obtain ⟨Φ, ds, e⟩ := mineAt_iff.1 hmi; rw [hc] at e; cases e) (fun _ _ _ _ _ e => by rw [hc] at e; cases e) (fun _ _ _ _ _ _ _ e => by rw [hc] at e; cases e)⟩
      | put T n ia ic ds =>
        obtain ⟨⟨T1, X, Y, hop, hdo, hX, hY, hinfo⟩, hcell⟩ := hstep
        obtain ⟨hsz, hone⟩ := hcell w h.below h.kept (hdep (ic :: ds) fun j hj => by simp only [Fcl.deps]; exact List.mem_cons_of_mem _ hj)
        have hLa := hLdep ia (by simp [Fcl.hard])
        have hLc := hLdep ic (by simp [Fcl.hard])
        have hia := hdepLt ia (by simp [Fcl.hard])
        have hic := hdepLt ic (by simp [Fcl.hard])
        have hnewA := hputN hc
        obtain ⟨b, hb1, hb2, cs, hb3, hb4⟩ := h.new ia T n hnewA hLa
        rw [hlist ic hic] at hY hsz hone
        rw [hlist ia hia, hb1] at hX
        have eX := hev X (by rw [hop]; simp [Op.operands])
        have eY := hev Y (by rw [hop]; simp [Op.operands])
        refine wp_store_cells T1 X Y hop b 0 (us ic) (by rw [eX]; exact hX) (by rw [eY]; exact hY) (there_at hb3 (by omega)) (by rw [hsz]; exact hinfo) hone ?_
        obtain ⟨t1, t2, t3, t4⟩ := h.tmps hi hL hun' hdist hroom' undef us (fun _ _ => rfl) (fun d hd => by rw [hdo] at hd; cases hd)
        have hTs := hnewT hnewA
        have hBb := Nat.le_trans hB hb2
        have hblt := hb3.lt
        have hoth : ∀ k b', newAt cl k = true → L.getD k false = true → k ≠ ia → us k = .pointer (some ⟨b', 0, none⟩) → b' ≠ b := fun k b' hk hLk hka e e2 => by
          subst e2
          exact h.news k ia hk (newAt_iff.2 ⟨T, n, hnewA⟩) hka hLk hLa (by rw [e, hb1])
        refine ⟨us, t1, t2, t3, t4, h.fits, below_setCells hBb _ _ _ h.below, h.kept.trans (KeptV.setCells hb3 hTs hBb _ _), hclosed, ?_, ?_, ?_, ?_, ?_, ?_, ?_, fun g hg hn => (setCells_far _ _ _ _ g (by omega)).trans (h.only g hg hn)⟩
        · intro k m Φ ds' hk hLk
          rcases (getD_set_iff hL).1 hLk with rfl | hLk
          · rw [hc] at hk; cases hk
          · exact StableF.get cl hst k m Φ ds' hk _ _ _ (h.told k m Φ ds' hk hLk) (KeptV.setCells hb3 hTs hBb _ _)
        · intro k hk hLk g hg
          rcases (getD_set_iff hL).1 hLk with rfl | hLk
          · obtain ⟨_, _, e⟩ := mineAt_iff.1 hk; rw [hc] at e; cases e
          · rw [setCells_size]; exact h.top k hk hLk g hg
        · intro k j hk hj hkj hLk hLj
          rcases (getD_set_iff hL).1 hLk with rfl | hLk
          · obtain ⟨_, _, e⟩ := mineAt_iff.1 hk; rw [hc] at e; cases e
          · rcases (getD_set_iff hL).1 hLj with rfl | hLj
            · obtain ⟨_, _, e⟩ := mineAt_iff.1 hj; rw [hc] at e; cases e
            · exact h.apart k j hk hj hkj hLk hLj
        · intro k T' n' hk hLk
          rcases (getD_set_iff hL).1 hLk with rfl | hLk
          · rw [hc] at hk; cases hk
          · obtain ⟨b', g1, g2, cs', g3, g4⟩ := h.new k T' n' hk hLk
            by_cases e : k = ia
            · subst e
              rw [hb1] at g1
              injection g1 with g1
              injection g1 with g1
              injection g1 with g1
              subst g1
              exact ⟨_, hb1, g2, _, g3.setCells _ _ _ _, by rw [setAll_size, g4]⟩
            · exact ⟨b', g1, g2, cs', g3.setCells_far (hoth k b' (newAt_iff.2 ⟨_, _, hk⟩) hLk e g1) _ _ _, g4⟩
        · intro k j hk hj hkj hLk hLj
          rcases (getD_set_iff hL).1 hLk with rfl | hLk
          · obtain ⟨_, _, e⟩ := newAt_iff.1 hk; rw [hc] at e; cases e
          · rcases (getD_set_iff hL).1 hLj with rfl | hLj
            · obtain ⟨_, _, e⟩ := newAt_iff.1 hj; rw [hc] at e; cases e
            · exact h.news k j hk hj hkj hLk hLj
        · intro k T' n' ja jc ds' hk hLk
          rcases (getD_set_iff hL).1 hLk with rfl | hLk
          · rw [hc] at hk; injection hk with hk; injection hk with e1 e2 e3 e4 e5
            subst e1 e2 e3 e4
            refine ⟨(getD_set_iff hL).2 (.inr hLa), (getD_set_iff hL).2 (.inr hLc), b, hb1, ?_⟩
            have := hb3.setCells (us ic).cells.toList 0
            rwa [setAll_all _ _ (by omega)] at this
          · obtain ⟨g1, g2, b', g3, g4⟩ := h.put k T' n' ja jc ds' hk hLk
            have hka : ja ≠ ia := putsF_inj cl (nodupB_spec hputs) k i _ _ _ _ _ _ _ _ _ _ hk hc (fun e => hne k hLk e)
            exact ⟨(getD_set_iff hL).2 (.inr g1), (getD_set_iff hL).2 (.inr g2), b', g3, g4.setCells_far (hoth ja b' (newAt_iff.2 ⟨_, _, hputN hk⟩) g1 hka g3) _ _ _⟩
        · intro k b' T' cs' k0 n' jc ds' hk
          have hki : k ≠ i := fun e => by subst e; rw [hc] at hk; cases hk
          rw [hkeep k hki]
          obtain ⟨g1, g2⟩ := h.old k b' T' cs' k0 n' jc ds' hk
          have hb' := (OldsF.get cl hold k b' T' cs' k0 n' jc ds' hk).2.1
          refine ⟨fun hLk => ?_, fun hLk => (g2 hLk).setCells_far (by omega) _ _ _⟩
          obtain ⟨g3, g4⟩ := g1 hLk
          exact ⟨(getD_set_iff hL).2 (.inr g3), g4.setCells_far (by omega) _ _ _⟩
      | old b T cs k0 n ic ds =>
        obtain ⟨⟨T1, X, Y, hop, hdo, hX, hY, hinfo⟩, hcell⟩ := hstep
        obtain ⟨hsz, hone⟩ := hcell w h.below h.kept (hdep (ic :: ds) fun j hj => hj)
        have hLc := hLdep ic (by simp [Fcl.hard])
        have hic := hdepLt ic (by simp [Fcl.hard])
        obtain ⟨hb1, hb2, _, hb4⟩ := OldsF.get cl hold i b T cs k0 n ic ds hc
        have hb3 := (h.old i b T cs k0 n ic ds hc).2 hun'
        rw [hlist ic hic] at hY hsz hone
        have eX := hev X (by rw [hop]; simp [Op.operands])
        have eY := hev Y (by rw [hop]; simp [Op.operands])
        refine wp_store_cells T1 X Y hop b k0 (us ic) (by rw [eX]; exact hX) (by rw [eY]; exact hY) (there_at hb3 (by omega)) (by rw [hsz]; exact hinfo) hone ?_
        obtain ⟨t1, t2, t3, t4⟩ := h.tmps hi hL hun' hdist hroom' undef us (fun _ _ => rfl) (fun d hd => by rw [hdo] at hd; cases hd)
        have hTs := holdT hc
        refine ⟨us, t1, t2, t3, t4, h.fits, below_setCells hb1 _ _ _ h.below, h.kept.trans (KeptV.setCells hb3 hTs hb1 _ _), hclosed, ?_, ?_, ?_, ?_, ?_, ?_, ?_, fun g hg hn => (setCells_far _ _ _ _ g (fun e => hn (e ▸ oldsF_mem cl i _ _ _ _ _ _ _ hc))).trans (h.only g hg hn)⟩
        · intro k m Φ ds' hk hLk
          rcases (getD_set_iff hL).1 hLk with rfl | hLk
          · rw [hc] at hk; cases hk
          · exact StableF.get cl hst k m Φ ds' hk _ _ _ (h.told k m Φ ds' hk hLk) (KeptV.setCells hb3 hTs hb1 _ _)
        · intro k hk hLk g hg
          rcases (getD_set_iff hL).1 hLk with rfl | hLk
          · obtain ⟨_, _, e⟩ := mineAt_iff.1 hk; rw [hc] at e; cases e
          · rw [setCells_size]; exact h.top k hk hLk g hg
        · intro k j hk hj hkj hLk hLj
          rcases (getD_set_iff hL).1 hLk with rfl | hLk
          · obtain ⟨_, _, e⟩ := mineAt_iff.1 hk; rw [hc] at e; cases e
          · rcases (getD_set_iff hL).1 hLj with rfl | hLj
            · obtain ⟨_, _, e⟩ := mineAt_iff.1 hj; rw [hc] at e; cases e
            · exact h.apart k j hk hj hkj hLk hLj
        · intro k T' n' hk hLk
          rcases (getD_set_iff hL).1 hLk with rfl | hLk
          · rw [hc] at hk; cases hk
          · obtain ⟨b', g1, g2, cs', g3, g4⟩ := h.new k T' n' hk hLk
            exact ⟨b', g1, g2, cs', g3.setCells_far (by omega) _ _ _, g4⟩
        · intro k j hk hj hkj hLk hLj
          rcases (getD_set_iff hL).1 hLk with rfl | hLk
          · obtain ⟨_, _, e⟩ := newAt_iff.1 hk; rw [hc] at e; cases e
          · rcases (getD_set_iff hL).1 hLj with rfl | hLj
            · obtain ⟨_, _, e⟩ := newAt_iff.1 hj; rw [hc] at e; cases e
            · exact h.news k j hk hj hkj hLk hLj
        · intro k T' n' ja jc ds' hk hLk
          rcases (getD_set_iff hL).1 hLk with rfl | hLk
          · rw [hc] at hk; cases hk
          · obtain ⟨g1, g2, b', g3, g4⟩ := h.put k T' n' ja jc ds' hk hLk
            obtain ⟨b2, g5, g6, _⟩ := h.new ja T' n' (hputN hk) g1
            rw [g3] at g5
            injection g5 with g5
            injection g5 with g5
            injection g5 with g5
            exact ⟨(getD_set_iff hL).2 (.inr g1), (getD_set_iff hL).2 (.inr g2), b', g3, g4.setCells_far (by omega) _ _ _⟩
        · intro k b' T' cs' k1 n' jc ds' hk
          obtain ⟨g1, g2⟩ := h.old k b' T' cs' k1 n' jc ds' hk
          by_cases hki : k = i
          · subst hki
            rw [hc] at hk; injection hk with hk; injection hk with e1 e2 e3 e4 e5 e6 e7
            subst e1 e2 e3 e4 e6
            refine ⟨fun _ => ⟨(getD_set_iff hL).2 (.inr hLc), hb3.setCells _ _ _ _⟩, fun hLk => ?_⟩
            rw [(getD_set_iff hL).2 (.inl rfl)] at hLk; cases hLk
          · rw [hkeep k hki]
            have hbb : b' ≠ b := oldsF_inj cl holds k i _ _ _ _ _ _ _ _ _ _ _ _ _ _ hk hc hki
            refine ⟨fun hLk => ?_, fun hLk => (g2 hLk).setCells_far hbb _ _ _⟩
            obtain ⟨g3, g4⟩ := g1 hLk
            exact ⟨(getD_set_iff hL).2 (.inr g3), g4.setCells_far hbb _ _ _⟩
    · rw [hwant] at hw
      have hsk : c.isSkip = true := by simpa using hw
      cases c with
      | skip =>
        simp only at hfi
        exact ⟨us, grow us w (Below.refl _ _) (fun _ _ => rfl) h.fits undef (fun _ _ => hfi.symm) (fun T n e => by rw [hc] at e; cases e) (fun m Φ ds e => by rw [hc] at e; cases e) (fun hmi => by obtain ⟨Φ, ds, e⟩ := mineAt_iff.1 hmi; rw [hc] at e; cases e) (fun _ _ _ _ _ e => by rw [hc] at e; cases e) (fun _ _ _ _ _ _ _ e => by rw [hc] at e; cases e)⟩
      | _ => cases hsk
  · rintro L a w ⟨us, h⟩ hdone
    have hact : a = freeAct ops a0 (upTo us cl.length) := by
      obtain ⟨t, d⟩ := a
      have h1 := h.defers
      simp only at h1
      subst h1
      unfold freeAct
      have hget : ∀ (i : Nat) (o : Oper), ops[i]? = some o → (upTo us cl.length).getD i undef = us i := fun i o hi => upTo_get us (by have := (Array.getElem?_eq_some_iff.1 hi).1; omega)
      have h2 := fill_unique (pairs ops fun i => some ((upTo us cl.length).getD i undef)) (pairs_nodup _ hnd) a0.tmps t h.size (fun d hd => ?_) (fun p hp _ => ?_)
      · rw [← h2]
      · refine h.out d fun i o hi _ hd2 => ?_
        exact hd _ (pairs_has hi hd2 rfl) rfl
      · obtain ⟨i, o, hi, hd, hv⟩ := pairs_mem hp
        have := h.inn i o p.1 hi (hdone i (Array.getElem?_eq_some_iff.1 hi).1) hd
        rw [this, ← hv, hget i o hi]
    have hin : ∀ {i : Nat} {c : Fcl}, cl[i]? = some c → L.getD i false = true := fun hc => hdone _ (hinOps hc)
    have hg : ∀ {i : Nat} {c : Fcl}, cl[i]? = some c → (upTo us cl.length).getD i undef = us i := fun {i c} hc => upTo_get us (List.getElem?_eq_some_iff.1 hc).1
    have hdepIn : ∀ {i : Nat} {c : Fcl}, cl[i]? = some c → ∀ j ∈ c.hard, j < cl.length := fun {i c} hc j hj => by
      have hi := hinOps hc
      have h1 := List.all_eq_true.1 hdeps i (List.mem_range.2 hi)
      obtain ⟨o, ho⟩ : ∃ o, ops[i]? = some o := ⟨ops[i], Array.getElem?_eq_getElem hi⟩
      simp only [ho, hc, Bool.and_eq_true] at h1
      have h3 := reach_lt hback ho (Bool.and_eq_true_iff.1 (List.all_eq_true.1 h1.2 j hj)).2
      omega
    have hend' := EndF.get cl 0 (fun j => by simp) h.fits (fun j T n b hj hb => by
      obtain ⟨b', h1, h2, _⟩ := h.new j T n hj (hin hj)
      rw [h1] at hb
      injection hb with hb
      injection hb with hb
      injection hb with hb
      omega) hend
    rw [Nat.zero_add] at hend'
    rw [hact]
    refine hend' w h.below h.kept (FactsF.of (cl := cl) ?_ ?_ ?_ cl 0 (fun j => by simp)) ?_ ?_ ?_
    · intro i m Φ ds hc
      rw [hg hc]; exact h.told i m Φ ds hc (hin hc)
    · intro i T n ia ic ds hc
      obtain ⟨h1, h2, b, h3, h4⟩ := h.put i T n ia ic ds hc (hin hc)
      rw [upTo_get us (hdepIn hc ia (by simp [Fcl.hard])), upTo_get us (hdepIn hc ic (by simp [Fcl.hard]))]
      exact ⟨b, h3, h4⟩
    · intro i b T cs o n ic ds hc
      obtain ⟨h1, h2⟩ := (h.old i b T cs o n ic ds hc).1 (hin hc)
      rw [upTo_get us (hdepIn hc ic (by simp [Fcl.hard]))]
      exact h2
    · intro i j hi hj hne g
      obtain ⟨_, _, ei⟩ := mineAt_iff.1 hi
      obtain ⟨_, _, ej⟩ := mineAt_iff.1 hj
      rw [hg ei, hg ej]
      exact h.apart i j hi hj hne (hin ei) (hin ej) g
    · intro i hi g
      obtain ⟨_, _, ei⟩ := mineAt_iff.1 hi
      rw [hg ei]
      exact h.top i hi (hin ei) g
    · refine ⟨fun i j hi hj hne => ?_, h.only⟩
      obtain ⟨_, _, ei⟩ := newAt_iff.1 hi
      obtain ⟨_, _, ej⟩ := newAt_iff.1 hj
      rw [hg ei, hg ej]
      exact h.news i j hi hj hne (hin ei) (hin ej)
  · have : (List.filter (fun i => !(Array.replicate ops.size false).getD i false) (List.range ops.size)).length ≤ (List.range ops.size).length := List.length_filter_le _ _
    unfold unlisted
    simpa using this
  · have hno : ∀ i, (Array.replicate ops.size false).getD i false = true → False := fun i hL => by
      simp at hL; rcases Nat.lt_or_ge i ops.size with h | h <;> simp [h] at hL
    let us : Nat → Value := fun j => match cl[j]? with
      | some (.val v _) => v
      | some (.new _ _) => .pointer (some ⟨0, 0, none⟩)
      | _ => undef
    refine ⟨us, rfl, rfl, fun _ _ => rfl, fun i o d _ hL _ => (hno i hL).elim, fun j => ?_, hW.drew, hK.drew, fun i o _ hL => (hno i hL).elim, fun i _ _ _ _ hL => (hno i hL).elim, fun i _ hL => (hno i hL).elim, fun i _ _ _ _ hL => (hno i hL).elim, fun i _ _ _ hL => (hno i hL).elim, fun i _ _ _ _ hL => (hno i hL).elim, fun i _ _ _ _ _ _ hL => (hno i hL).elim, fun i b T cs o n ic ds hc => ⟨fun hL => (hno i hL).elim, fun _ => (OldsF.get cl hold i b T cs o n ic ds hc).2.2.1.drew⟩, hO⟩
    unfold FitsAt
    cases hj : cl[j]? with
    | none => simp [us, hj]
    | some c => cases c <;> simp [us, hj]
end
/- Whole numbers in regions that draw their order: what is told of them stays. -/

theorem intInfo : (Tryz.prog.info? 25).map (·.size) = some 2 := by kernel_rfl
theorem IntOwn.kept {B : Nat} {Ts : List TypeId} {w w' : World} {base : Nat} {v : Value} {x : Int} (h : IntOwn w base v x) (k : KeptV B Ts w w') (hT : 109 ∉ Ts) : IntOwn w' base v x := by
  obtain ⟨A, c, h1, h2, h3, h4⟩ := h.form
  exact ⟨A, c, h1, h2, h3, k.own h4 hT⟩
theorem IntOwn.cells {w : World} {base : Nat} {v : Value} {x : Int} (h : IntOwn w base v x) : CellsN v 2 := by
  obtain ⟨A, c, rfl, -⟩ := h.form
  exact ⟨rfl, by simp [Value.cells, Value.oneCell']⟩
def blkInt (v : Value) (g : Nat) : Prop := blkOf v = some g
def RetBoth (base : Nat) (w : World) (z1 z2 : Int) (e : Ending) (w' : World) : Prop := ∃ v1 v2, e = .returned (.tuple #[v1, v2]) ∧ IntOwn w' base v1 z1 ∧ IntOwn w' base v2 z2 ∧ Below w.heap.size w w'
theorem allocInt {o : Oper} (h : o.op = .alloc 25) : AllocF Tryz.prog o 25 2 := by
  refine ⟨#[.bool false, .slice none 0 0], rfl, fun ρ w => ?_⟩
  unfold execOp
  rw [h]
  kernel_rfl
theorem IntOwn.nat {w : World} {base n : Nat} {v : Value} (h : IntOwn w base v (n : Int)) : ∃ A c, v = .agg #[.bool false, .slice A (natL n).length c] ∧ OwnN w base (.slice A (natL n).length c) n := by
  obtain ⟨A, c, h1, h2, h3, h4⟩ := h.form
  have e : decide ((n : Int) < 0) = false := by simp
  rw [e] at h1
  simp only [Int.natAbs_natCast] at h1 h2 h3 h4
  exact ⟨A, c, h1, A, c, rfl, h2, h3, h4⟩
theorem OwnN.int {w : World} {base n c : Nat} {A : Option Addr} (h : OwnN w base (.slice A (natL n).length c) n) : IntOwn w base (.agg #[.bool false, .slice A (natL n).length c]) (n : Int) := by
  obtain ⟨A', c', h1, h2, h3, h4⟩ := h.form
  injection h1 with a1 a2 a3
  subst a1 a3
  have e : decide ((n : Int) < 0) = false := by simp
  exact ⟨A, c, by rw [e]; rfl, h2, h3, h4⟩
theorem Pair.size {w : World} {g : Nat} {t : TypeId} {a b : Value} (h : Pair w g t a b) : g < w.heap.size := h.blk.lt
theorem IntOwn.shape {w : World} {base : Nat} {v : Value} {x : Int} (h : IntOwn w base v x) : ∃ b A k c, v = .agg #[.bool b, .slice A k c] := by
  obtain ⟨A, c, h1, -⟩ := h.form
  exact ⟨_, _, _, _, h1⟩
theorem OwnN.pair {w : World} {base n g : Nat} {v a b : Value} (h : OwnN w base v n) (p : Pair w g 25 a b) (x y : Value) : OwnN ((w.setCell ⟨g, 0, none⟩ x).setCell ⟨g, 1, none⟩ y) base v n := by
  obtain ⟨A, c, h1, h2, h3, h4⟩ := h.form
  exact ⟨A, c, h1, h2, h3, own_pair h4 (own_blk_ne h4 p.blk (by decide))⟩
/- Common of package exact: the greatest number that goes into both. -/

structure Held2 (w wr : World) (ba bb : Nat) (A1 : Option Addr) (c1 x : Nat) (A2 : Option Addr) (c2 y : Nat) : Prop where
  pa : Pair wr ba 25 (.bool false) (.slice A1 (natL x).length c1)
  pb : Pair wr bb 25 (.bool false) (.slice A2 (natL y).length c2)
  one : OwnN wr w.heap.size (.slice A1 (natL x).length c1) x
  two : OwnN wr w.heap.size (.slice A2 (natL y).length c2) y
  low : Below w.heap.size w wr
  la : w.heap.size + 3 ≤ ba
  lb : w.heap.size + 3 ≤ bb
  ne : ba ≠ bb
  res : Pair wr (w.heap.size + 2) 25 (.bool false) (.slice none 0 0)
theorem OwnN.drew {w : World} {base n : Nat} {v : Value} (h : OwnN w base v n) : OwnN w.drew base v n := h.below (Below.refl _ _).drew
theorem Held2.drew {w wr : World} {ba bb : Nat} {A1 A2 : Option Addr} {c1 x c2 y : Nat} (h : Held2 w wr ba bb A1 c1 x A2 c2 y) : Held2 w wr.drew ba bb A1 c1 x A2 c2 y :=
  ⟨h.pa.drew, h.pb.drew, h.one.drew, h.two.drew, h.low.drew, h.la, h.lb, h.ne, h.res.drew⟩

theorem exact_Common (n1 n2 : Bool) (A B : Option Addr) (c d : Nat) (xs ys : List Nat) (hlx : xs.length ≤ 536870912) (hly : ys.length ≤ 536870912) (w : World) (h : Raw w A c xs) (g : Raw w B d ys) :
    Calls Tryz.prog 98 #[.agg #[.bool n1, .slice A xs.length c], .agg #[.bool n2, .slice B ys.length d]] w (RetInt w.heap.size w ((Nat.gcd (val xs) (val ys) : Nat) : Int)) := by
  have px := ((Pair.new w 25 (.bool n1) (.slice A xs.length c)).alloc (.cells #[.bool n2, .slice B ys.length d] 25)).alloc (.cells #[.bool false, .slice none 0 0] 25)
  have py := (Pair.new (w.alloc (.cells #[.bool n1, .slice A xs.length c] 25)) 25 (.bool n2) (.slice B ys.length d)).alloc (.cells #[.bool false, .slice none 0 0] 25)
  have pr := Pair.new ((w.alloc (.cells #[.bool n1, .slice A xs.length c] 25)).alloc (.cells #[.bool n2, .slice B ys.length d] 25)) 25 (.bool false) (.slice none 0 0)
  have rx := (((h.alloc (.cells #[.bool n1, .slice A xs.length c] 25)).alloc (.cells #[.bool n2, .slice B ys.length d] 25)).alloc (.cells #[.bool false, .slice none 0 0] 25))
  have ry := (((g.alloc (.cells #[.bool n1, .slice A xs.length c] 25)).alloc (.cells #[.bool n2, .slice B ys.length d] 25)).alloc (.cells #[.bool false, .slice none 0 0] 25))
  have b0 := (((Below.refl w.heap.size w).alloc (Nat.le_refl _) (.cells #[.bool n1, .slice A xs.length c] 25)).alloc (by simp) (.cells #[.bool n2, .slice B ys.length d] 25)).alloc (by simp; omega) (.cells #[.bool false, .slice none 0 0] 25)
  simp only [World.size_alloc] at py pr
  have HLX := Hd h.limbs
  have HLY := Hd g.limbs
  clear h g
  go_enter Tryz.func98, Tryz.ntmps98
  go_wp2_with fail
  obtain ⟨W, E⟩ : ∃ W, W = ((w.alloc (.cells #[.bool n1, .slice A xs.length c] 25)).alloc (.cells #[.bool n2, .slice B ys.length d] 25)).alloc (.cells #[.bool false, .slice none 0 0] 25) := ⟨_, rfl⟩
  rw [← E] at px py pr b0 rx ry ⊢
  have hszW : w.heap.size + 3 ≤ W.heap.size := by rw [E]; simp
  clear E
  have PX := Hd px
  have PY := Hd py
  have PR := Hd pr
  have B0 := Hd b0
  have H1 := Hd (fun (V : World) (hV : Below W.heap.size W V) => (exact_own false A c xs (by omega) V (rx.below hV)).mono (R' := RetInt w.heap.size V ((val xs : Nat) : Int)) (by rintro e w' ⟨v, rfl, hv, hb⟩; exact ⟨v, rfl, hv.base (by have := hV.size; omega), hb⟩))
  have H2 := Hd (fun (V : World) (hV : Below W.heap.size W V) => (exact_own false B d ys (by omega) V (ry.below hV)).mono (R' := RetInt w.heap.size V ((val ys : Nat) : Int)) (by rintro e w' ⟨v, rfl, hv, hb⟩; exact ⟨v, rfl, hv.base (by have := hV.size; omega), hb⟩))
  obtain ⟨X, hX⟩ : ∃ X, X = val xs := ⟨_, rfl⟩
  obtain ⟨Y, hY⟩ : ∃ Y, Y = val ys := ⟨_, rfl⟩
  rw [← hX] at H1
  rw [← hY] at H2
  have HLx := Hd (show (natL X).length ≤ 536870912 by rw [hX]; exact Nat.le_trans (natL_val_le HLX.out) hlx)
  have HLy := Hd (show (natL Y).length ≤ 536870912 by rw [hY]; exact Nat.le_trans (natL_val_le HLY.out) hly)
  have HXY := Hd (And.intro hX hY)
  clear px py pr rx ry b0 HLX HLY hX hY
  refine wp_region_free [.val (.pointer (some ⟨w.heap.size, 1, none⟩)) [], .val (.slice A xs.length c) [], .any false (fun u V => IntOwn V w.heap.size u (X : Int)) [],
      .val (.pointer (some ⟨w.heap.size + 1, 1, none⟩)) [], .val (.slice B ys.length d) [], .any false (fun u V => IntOwn V w.heap.size u (Y : Int)) [], .new 25 2, .new 25 2, .put 25 2 6 2 [], .put 25 2 7 5 []]
    W.heap.size W [25] (fun _ _ => False) _ mixedOrders2 (Nat.le_refl _) (Below.refl _ _) (KeptV.refl _ _ _) rfl (by kernel_rfl) (by kernel_rfl) (by kernel_rfl) (by kernel_rfl) (by kernel_rfl) (by kernel_rfl) (by kernel_rfl) (by kernel_rfl) rfl (by simp [oldsF]) ?_ ?_ ?_ ?_
  · simp only [StableF, and_true]
    exact ⟨fun u V V' h k => h.kept k (by decide), fun u V V' h k => h.kept k (by decide)⟩
  · simp only [OldsF]
  · simp [StepsF, DepF, freeAct, fill, pairs]
    repeat' (first | apply And.intro | (intro (u : Value)) | (intro (u : Nat)))
    all_goals try exact ⟨_, _, _, rfl, rfl, rfl, rfl, intInfo⟩
    all_goals try exact allocInt rfl
    all_goals first
    | (intro V hV hK
       obtain ⟨-, -, a1, -, -⟩ := (PX.out.below hV).facts
       obtain ⟨-, -, b1, -, -⟩ := (PY.out.below hV).facts
       have HV := Hd hV
       clear hV
       go_simp
       first
       | exact Below.refl _ _
       | ((with_reducible refine (H1.out V HV.out).mono ?_); rintro e w' ⟨v, rfl, hv, hb⟩; exact ⟨hv, hb⟩)
       | ((with_reducible refine (H2.out V HV.out).mono ?_); rintro e w' ⟨v, rfl, hv, hb⟩; exact ⟨hv, hb⟩))
    | exact fun _ _ _ (h : IntOwn _ _ _ _) => h.cells
  · simp [EndF, FactsF, freeAct, fill, pairs]
    intro u v ba hba bb hbb V hV hK h1 h2 p1 p2 _ _ hne
    have hne2 : ba ≠ bb := by
      intro e
      subst e
      exact hne.new 6 7 rfl rfl (by decide) rfl
    obtain ⟨A1, c1, rfl, o1⟩ := h1.nat
    obtain ⟨A2, c2, rfl, o2⟩ := h2.nat
    have HH := Hd (show Held2 w V ba bb A1 c1 X A2 c2 Y from ⟨⟨p1⟩, ⟨p2⟩, o1, o2, belowTo B0.out hV, by omega, by omega, hne2, PR.out.below hV⟩)
    clear h1 h2 p1 p2 hne hne2 o1 o2 hV hK hba hbb
    go_wp2_with fail
    go_loopg [] (Y) (fun k wr => ∃ A1 c1 x A2 c2, Hid (Held2 w wr ba bb A1 c1 x A2 c2 k ∧ Nat.gcd x k = Nat.gcd X Y ∧ (natL x).length ≤ 536870912 ∧ (natL k).length ≤ 536870912))
    case atStart => exact ⟨A1, c1, X, A2, c2, Hd ⟨HH.out, rfl, HLx.out, HLy.out⟩⟩
    case round =>
      clear HH
      obtain ⟨A1, c1, x, A2, c2, HR⟩ := hrel
      obtain ⟨hh, hg, hl1, hl2⟩ := HR.out
      have HG := Hd hg
      have HH := Hd hh
      obtain ⟨l1, a0, a1, f0, f1⟩ := hh.pa.facts
      obtain ⟨l2, b0, b1, g0, g1⟩ := hh.pb.facts
      clear HR hh hg
      rcases Nat.eq_zero_or_pos gk with hk | hk
      · subst hk
        have hln : (natL 0).length = 0 := by simp [natL_zero]
        rw [hln] at b1
        have hone := HH.out.one
        have hlow := HH.out.low
        have hxg : x = Nat.gcd X Y := by rw [← HG.out, Nat.gcd_zero_right]
        have hres := HH.out.res
        obtain ⟨l3, q0, q1, r0, r1⟩ := hres.facts
        have HO := Hd (hone.pair hres (.bool false) (.slice A1 (natL x).length c1))
        have HB := Hd (below2 hlow (show w.heap.size ≤ w.heap.size + 2 by omega) (.bool false) (.slice A1 (natL x).length c1))
        have HQ := Hd (hres.store (.bool false) (.slice A1 (natL x).length c1))
        have hfin : IntOwn ((wr.setCell ⟨w.heap.size + 2, 0, none⟩ (.bool false)).setCell ⟨w.heap.size + 2, 1, none⟩ (.slice A1 (natL x).length c1)) w.heap.size (.agg #[.bool false, .slice A1 (natL x).length c1]) ((Nat.gcd (val xs) (val ys) : Nat) : Int) := by
          rw [← HXY.out.1, ← HXY.out.2, ← hxg]; exact HO.out.int
        have HF := Hd hfin
        clear hln hone hlow hxg hres HH HG hfin HO
        go_wp2_with fail
        obtain ⟨_, k0, k1, _, _⟩ := HQ.out.facts
        exact bodyPost_ret (by simp [results, Tryz.results98, go_sem, k0, k1]) rfl ⟨_, rfl, HF.out, HB.out⟩
      · have hlk : (0 : Int) < ((natL gk).length : Int) := by
          have : (natL gk).length ≠ 0 := fun h0 => by
            have := natL_eq_nil.1 (List.eq_nil_of_length_eq_zero h0)
            omega
          omega
        have hne : natL gk ≠ [] := fun h0 => by rw [h0] at hlk; simp at hlk
        have C1 := Hd (exact_Divide false false A1 A2 c1 c2 (natL x) (natL gk) (canon_natL _) (canon_natL _) hne (by omega) (by omega) wr HH.out.one.raw_ HH.out.two.raw_)
        go_wp2_with fail
        refine C1.out.mono ?_
        rintro e w1 ⟨v1, v2, rfl, hI, hb⟩
        have hz : (ival false (natL x)).tmod (ival false (natL gk)) = ((x % gk : Nat) : Int) := by
          unfold ival
          simp only [val_natL, Bool.false_eq_true, if_false]
          rw [Int.ofNat_tmod]
        obtain ⟨b9, A9, k9, c9, rfl⟩ := hI.one.shape
        have hI2 := hI.two
        rw [hz] at hI2
        obtain ⟨A3, c3, rfl, o3⟩ := hI2.nat
        have HA := Hd (HH.out.pa.below hb)
        have HBb := Hd (HH.out.pb.below hb)
        have HRs := Hd (HH.out.res.below hb)
        have HO2 := Hd (HH.out.two.below hb)
        have HO3 := Hd (o3.base (b' := w.heap.size) HH.out.low.size)
        have HLo := Hd (belowTo HH.out.low hb)
        have hs1 := HA.out.size
        have hs2 := HBb.out.size
        clear hz hI hI2 o3 hb l1 a0 a1 f0 f1 l2 b0 b1 g0 g1 C1
        go_wp2_with fail
        obtain ⟨W2, E2⟩ : ∃ W2, W2 = (w1.alloc (.cells #[.bool b9, .slice A9 k9 c9] 25)).alloc (.cells #[.bool false, .slice A3 (natL (x % gk)).length c3] 25) := ⟨_, rfl⟩
        have hp8 := Pair.new (w1.alloc (.cells #[.bool b9, .slice A9 k9 c9] 25)) 25 (.bool false) (.slice A3 (natL (x % gk)).length c3)
        have hb2 := ((Below.refl w1.heap.size w1).alloc (Nat.le_refl _) (.cells #[.bool b9, .slice A9 k9 c9] 25)).alloc (by simp) (.cells #[.bool false, .slice A3 (natL (x % gk)).length c3] 25)
        rw [← E2] at hp8 hb2 ⊢
        simp only [World.size_alloc] at hp8
        clear E2
        have pa := HA.out.below hb2
        have pb := HBb.out.below hb2
        have o2 := HO2.out.below hb2
        have o3 := HO3.out.below hb2
        have hlw := HLo.out.size
        have hn8 : bb ≠ w1.heap.size + 1 := by omega
        have hn8a : ba ≠ w1.heap.size + 1 := by omega
        have ne := HH.out.ne
        have HN := Hd (show Held2 w ((((W2.setCell ⟨ba, 0, none⟩ (.bool false)).setCell ⟨ba, 1, none⟩ (.slice A2 (natL gk).length c2)).setCell ⟨bb, 0, none⟩ (.bool false)).setCell ⟨bb, 1, none⟩ (.slice A3 (natL (x % gk)).length c3)) ba bb A2 c2 gk A3 c3 (x % gk) from
          ⟨(pa.store _ _).far ne _ _, (pb.far (Ne.symm ne) _ _).store _ _, (o2.pair pa _ _).pair (pb.far (Ne.symm ne) _ _) _ _, (o3.pair pa _ _).pair (pb.far (Ne.symm ne) _ _) _ _,
            below2 (below2 (belowTo HLo.out hb2) (by have := HH.out.la; omega) _ _) (by have := HH.out.lb; omega) _ _, HH.out.la, HH.out.lb, ne,
            (((HRs.out.below hb2).far (by have := HH.out.la; omega) _ _).far (by have := HH.out.lb; omega) _ _)⟩)
        have hgc : Nat.gcd gk (x % gk) = Nat.gcd X Y := by
          rw [← HG.out, Nat.gcd_comm x gk, Nat.gcd_rec gk x, Nat.gcd_comm]
        have hln : (natL (x % gk)).length ≤ 536870912 := Nat.le_trans (natL_mono (Nat.le_of_lt (Nat.mod_lt _ hk))) hl2
        have HGC := Hd (And.intro hgc hln)
        have HM := Hd (Nat.mod_lt x hk)
        obtain ⟨m1, a0, a1, f0, f1⟩ := pa.facts
        obtain ⟨m2, b0, b1, g0, g1⟩ := pb.facts
        obtain ⟨m3, d0, d1, -, -⟩ := hp8.facts
        clear pa pb hp8 o2 o3 hgc hln hb2 HA HBb HRs HO2 HO3 HLo HG HH hlw
        go_region
        all_goals (go_wp2_with fail)
        all_goals (go_roundg (x % gk))
        case measure => exact HM.out
        case rel => exact ⟨A2, c2, gk, A3, c3, Hd ⟨HN.out.drew, HGC.out.1, hl2, HGC.out.2⟩⟩
/- How long numbers get. -/

def lz (z : Int) : Nat := (natL z.natAbs).length
theorem lz_le {z : Int} {k : Nat} : lz z ≤ k ↔ z.natAbs < 4294967296 ^ k := natL_length_le
theorem lz_lt (z : Int) : z.natAbs < 4294967296 ^ lz z := lz_le.1 (Nat.le_refl _)
theorem lz_mono {x y : Int} (h : x.natAbs ≤ y.natAbs) : lz x ≤ lz y := lz_le.2 (Nat.lt_of_le_of_lt h (lz_lt y))
theorem lz_mul (x y : Int) : lz (x * y) ≤ lz x + lz y := by
  rw [lz_le, Int.natAbs_mul, Nat.pow_add]
  have h1 := lz_lt x
  have h2 := lz_lt y
  exact Nat.mul_lt_mul'' h1 h2
theorem lz_add (x y : Int) : lz (x + y) ≤ max (lz x) (lz y) + 1 := by
  rw [lz_le, Nat.pow_succ]
  have h1 : x.natAbs < 4294967296 ^ max (lz x) (lz y) := lz_le.1 (Nat.le_max_left _ _)
  have h2 : y.natAbs < 4294967296 ^ max (lz x) (lz y) := lz_le.1 (Nat.le_max_right _ _)
  have h3 := Int.natAbs_add_le x y
  generalize 4294967296 ^ max (lz x) (lz y) = p at *
  omega
theorem lz_neg (y : Int) : lz (-y) = lz y := by unfold lz; rw [Int.natAbs_neg]
theorem lz_sub (x y : Int) : lz (x - y) ≤ max (lz x) (lz y) + 1 := by
  have := lz_add x (-y)
  rw [lz_neg] at this
  exact this
theorem lz_zero : lz 0 = 0 := by decide
end Go.Proofs.YtmcnmoljliggfaaGreatDoor
