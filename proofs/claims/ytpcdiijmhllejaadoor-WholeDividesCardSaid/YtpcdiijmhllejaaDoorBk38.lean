/- Several texts in one: SumTimes. -/
import Derived.Test.YtpcdiijmhllejaaDoorBk35
/- sum, times: where the answer may be, and all went well so far. (Written by wip/whole/gensumtimes.py.) -/
namespace Go.Proofs.YtpcdiijmhllejaaDoor
open Go.RowKit

theorem set_same {w : World} {g : Nat} {t : TypeId} {u : Value} (h : Blk w g t #[u]) : w.setCell ⟨g, 0, none⟩ u = w := by
  have e : (w.setCell ⟨g, 0, none⟩ u).heap = w.heap := by
    refine Array.ext_getElem? fun k => ?_
    by_cases hk : k = g
    · subst hk
      have := h.set_ 0 u
      unfold Blk at this h
      rw [this, h]
      rfl
    · exact Below.heap_setCell w ⟨g, 0, none⟩ u k hk
  unfold World.setCell at e ⊢
  simp only at e
  rw [e]

set_option maxRecDepth 100000 in
set_option maxHeartbeats 2000000 in
theorem sum_o (x y z : Int) (A B : Option Addr) (c d p : Nat) (hx : Fit x) (hy : Fit y) (w : World) (h : Raw w A c (natL x.natAbs)) (g : Raw w B d (natL y.natAbs)) (hp : Blk w p 4 #[.bool true]) (hz : z = x + y) (fz : Fit z) :
    Calls Tryd.prog 17 #[.agg #[.bool (decide (x < 0)), .slice A (natL x.natAbs).length c], .agg #[.bool (decide (y < 0)), .slice B (natL y.natAbs).length d], .pointer (some ⟨p, 0, none⟩)] w (RetInt w.heap.size w z) := by
  have px := ((Pair.new w 24 (.bool (decide (x < 0))) (.slice A (natL x.natAbs).length c)).alloc (.cells #[.bool (decide (y < 0)), .slice B (natL y.natAbs).length d] 24)).alloc (.cells #[.bool false, .slice none 0 0] 24)
  have py := (Pair.new (w.alloc (.cells #[.bool (decide (x < 0)), .slice A (natL x.natAbs).length c] 24)) 24 (.bool (decide (y < 0))) (.slice B (natL y.natAbs).length d)).alloc (.cells #[.bool false, .slice none 0 0] 24)
  have pq := Pair.new ((w.alloc (.cells #[.bool (decide (x < 0)), .slice A (natL x.natAbs).length c] 24)).alloc (.cells #[.bool (decide (y < 0)), .slice B (natL y.natAbs).length d] 24)) 24 (.bool false) (.slice none 0 0)
  have rx := ((h.alloc (.cells #[.bool (decide (x < 0)), .slice A (natL x.natAbs).length c] 24)).alloc (.cells #[.bool (decide (y < 0)), .slice B (natL y.natAbs).length d] 24)).alloc (.cells #[.bool false, .slice none 0 0] 24)
  have ry := ((g.alloc (.cells #[.bool (decide (x < 0)), .slice A (natL x.natAbs).length c] 24)).alloc (.cells #[.bool (decide (y < 0)), .slice B (natL y.natAbs).length d] 24)).alloc (.cells #[.bool false, .slice none 0 0] 24)
  have pk := ((hp.alloc (.cells #[.bool (decide (x < 0)), .slice A (natL x.natAbs).length c] 24)).alloc (.cells #[.bool (decide (y < 0)), .slice B (natL y.natAbs).length d] 24)).alloc (.cells #[.bool false, .slice none 0 0] 24)
  have b0 := (((Below.refl w.heap.size w).alloc (Nat.le_refl _) (.cells #[.bool (decide (x < 0)), .slice A (natL x.natAbs).length c] 24)).alloc (by simp) (.cells #[.bool (decide (y < 0)), .slice B (natL y.natAbs).length d] 24)).alloc (by simp; omega) (.cells #[.bool false, .slice none 0 0] 24)
  simp only [World.size_alloc] at py pq
  have hlp := hp.lt
  have H1 := Lib.hid (fun (V : World) (a : Raw V A c (natL x.natAbs)) (b : Raw V B d (natL y.natAbs)) => add_o x y z A B c d hx hy V a b hz fz)
  have HF := Lib.hid fz
  clear h g hp hx hy hz fz
  go_enter Tryd.func17, Tryd.ntmps17
  obtain ⟨W, E⟩ : ∃ W, W = ((w.alloc (.cells #[.bool (decide (x < 0)), .slice A (natL x.natAbs).length c] 24)).alloc (.cells #[.bool (decide (y < 0)), .slice B (natL y.natAbs).length d] 24)).alloc (.cells #[.bool false, .slice none 0 0] 24) := ⟨_, rfl⟩
  have k0 := pk.cell 0
  have j0 := px.facts
  simp at k0
  go_wp2_with fail
  rw [← E] at px py pq rx ry pk b0 ⊢
  clear E k0 j0
  obtain ⟨l1, x0, x1, -, -⟩ := px.facts
  obtain ⟨l2, y0, y1, -, -⟩ := py.facts
  have B0 := Lib.hid b0
  have PQ := Lib.hid pq
  have PK := Lib.hid pk
  refine (H1.out W rx ry).mono ?_
  rintro e w1 ⟨v, rfl, hI, hb⟩
  obtain ⟨A1, c1, rfl, r1⟩ := hI.raw
  have hI1 := hI.alloc (.cells #[.bool (decide (z < 0)), .slice A1 (natL z.natAbs).length c1] 24)
  have hz1 := Pair.new w1 24 (.bool (decide (z < 0))) (.slice A1 (natL z.natAbs).length c1)
  have hb1 := hb.alloc hb.size (.cells #[.bool (decide (z < 0)), .slice A1 (natL z.natAbs).length c1] 24)
  have r1' := r1.alloc (.cells #[.bool (decide (z < 0)), .slice A1 (natL z.natAbs).length c1] 24)
  have hs1 := hb.size
  have hsW : w.heap.size + 1 + 1 < W.heap.size := pq.blk.lt
  have HM := Lib.hid (fun (V : World) (a : Raw V A1 c1 (natL z.natAbs)) => may1 z A1 c1 V a 24 true (by simp [HF.out]))
  clear px py pq rx ry pk l1 x0 x1 l2 y0 y1 H1 r1 b0 hb hI
  obtain ⟨W1, E1⟩ : ∃ W1, W1 = w1.alloc (.cells #[.bool (decide (z < 0)), .slice A1 (natL z.natAbs).length c1] 24) := ⟨_, rfl⟩
  have hsz1 : w1.heap.size < W1.heap.size := by rw [E1]; simp
  obtain ⟨l3, z0, z1, -, -⟩ := hz1.facts
  go_upto_region 4 with fail
  rw [← E1] at hz1 hb1 r1' hI1 z0 z1 l3 ⊢
  clear E1
  go_wp2_with fail
  refine (HM.out W1 r1').mono ?_
  rintro e w3 ⟨rfl, hb3⟩
  have hbb := belowTo hb1 hb3
  have pk3 := (PK.out.below hbb (by have := PK.out.lt; exact this))
  have hset := set_same pk3
  have k0 := pk3.cell 0
  have kf := pk3.frozen 0
  have kl := pk3.lt
  simp at k0
  have hz3 := hz1.below hb3
  have hI3 := hI1.below hb3
  have pq3 := PQ.out.below hbb
  have HBB := Lib.hid hbb
  clear l3 z0 z1 hb1 hb3 r1' hz1 hbb HM hI1
  go_upto_region 5 with fail
  clear hset k0 kf kl pk3
  obtain ⟨l3, z0, z1, -, -⟩ := hz3.facts
  obtain ⟨l4, q0, q1, f0, f1⟩ := pq3.facts
  have HQ := Lib.hid (pq3.store (.bool (decide (z < 0))) (.slice A1 (natL z.natAbs).length c1))
  have HB := Lib.hid (below2 (belowTo B0.out HBB.out) (show w.heap.size ≤ w.heap.size + 1 + 1 by omega) (.bool (decide (z < 0))) (.slice A1 (natL z.natAbs).length c1))
  have HR := Lib.hid (hI3.pair (g := w.heap.size + 1 + 1) (a := .bool (decide (z < 0))) (b := .slice A1 (natL z.natAbs).length c1) (by omega))
  clear hz3 hI3 pq3
  go_wp2_with fail
  obtain ⟨_, k0, k1, _, _⟩ := HQ.out.facts
  exact bodyPost_ret (by simp [results, Tryd.results17, go_sem, k0, k1]) rfl ⟨_, rfl, HR.out.base (by omega), HB.out⟩
theorem sum_z (x y z : Int) (A B : Option Addr) (c d p : Nat) (hx : Fit x) (hy : Fit y) (w : World) (h : Raw w A c (natL x.natAbs)) (g : Raw w B d (natL y.natAbs)) (hp : Blk w p 4 #[.bool true]) (hz : z = x + y) (fz : Fit z) :
    Calls Tryd.prog 17 #[.agg #[.bool (decide (x < 0)), .slice A (natL x.natAbs).length c], .agg #[.bool (decide (y < 0)), .slice B (natL y.natAbs).length d], .pointer (some ⟨p, 0, none⟩)] w (RetN1 w z) :=
  (sum_o x y z A B c d p hx hy w h g hp hz fz).mono fun _ _ q => q.n1

set_option maxRecDepth 100000 in
set_option maxHeartbeats 2000000 in
theorem times_o (x y z : Int) (A B : Option Addr) (c d p : Nat) (hx : Fit x) (hy : Fit y) (w : World) (h : Raw w A c (natL x.natAbs)) (g : Raw w B d (natL y.natAbs)) (hp : Blk w p 4 #[.bool true]) (hz : z = x * y) (fz : Fit z) :
    Calls Tryd.prog 18 #[.agg #[.bool (decide (x < 0)), .slice A (natL x.natAbs).length c], .agg #[.bool (decide (y < 0)), .slice B (natL y.natAbs).length d], .pointer (some ⟨p, 0, none⟩)] w (RetInt w.heap.size w z) := by
  have px := ((Pair.new w 24 (.bool (decide (x < 0))) (.slice A (natL x.natAbs).length c)).alloc (.cells #[.bool (decide (y < 0)), .slice B (natL y.natAbs).length d] 24)).alloc (.cells #[.bool false, .slice none 0 0] 24)
  have py := (Pair.new (w.alloc (.cells #[.bool (decide (x < 0)), .slice A (natL x.natAbs).length c] 24)) 24 (.bool (decide (y < 0))) (.slice B (natL y.natAbs).length d)).alloc (.cells #[.bool false, .slice none 0 0] 24)
  have pq := Pair.new ((w.alloc (.cells #[.bool (decide (x < 0)), .slice A (natL x.natAbs).length c] 24)).alloc (.cells #[.bool (decide (y < 0)), .slice B (natL y.natAbs).length d] 24)) 24 (.bool false) (.slice none 0 0)
  have rx := ((h.alloc (.cells #[.bool (decide (x < 0)), .slice A (natL x.natAbs).length c] 24)).alloc (.cells #[.bool (decide (y < 0)), .slice B (natL y.natAbs).length d] 24)).alloc (.cells #[.bool false, .slice none 0 0] 24)
  have ry := ((g.alloc (.cells #[.bool (decide (x < 0)), .slice A (natL x.natAbs).length c] 24)).alloc (.cells #[.bool (decide (y < 0)), .slice B (natL y.natAbs).length d] 24)).alloc (.cells #[.bool false, .slice none 0 0] 24)
  have pk := ((hp.alloc (.cells #[.bool (decide (x < 0)), .slice A (natL x.natAbs).length c] 24)).alloc (.cells #[.bool (decide (y < 0)), .slice B (natL y.natAbs).length d] 24)).alloc (.cells #[.bool false, .slice none 0 0] 24)
  have b0 := (((Below.refl w.heap.size w).alloc (Nat.le_refl _) (.cells #[.bool (decide (x < 0)), .slice A (natL x.natAbs).length c] 24)).alloc (by simp) (.cells #[.bool (decide (y < 0)), .slice B (natL y.natAbs).length d] 24)).alloc (by simp; omega) (.cells #[.bool false, .slice none 0 0] 24)
  simp only [World.size_alloc] at py pq
  have hlp := hp.lt
  have H1 := Lib.hid (fun (V : World) (a : Raw V A c (natL x.natAbs)) (b : Raw V B d (natL y.natAbs)) => mul_o x y z A B c d hx hy V a b hz fz)
  have HF := Lib.hid fz
  clear h g hp hx hy hz fz
  go_enter Tryd.func18, Tryd.ntmps18
  obtain ⟨W, E⟩ : ∃ W, W = ((w.alloc (.cells #[.bool (decide (x < 0)), .slice A (natL x.natAbs).length c] 24)).alloc (.cells #[.bool (decide (y < 0)), .slice B (natL y.natAbs).length d] 24)).alloc (.cells #[.bool false, .slice none 0 0] 24) := ⟨_, rfl⟩
  have k0 := pk.cell 0
  have j0 := px.facts
  simp at k0
  go_wp2_with fail
  rw [← E] at px py pq rx ry pk b0 ⊢
  clear E k0 j0
  obtain ⟨l1, x0, x1, -, -⟩ := px.facts
  obtain ⟨l2, y0, y1, -, -⟩ := py.facts
  have B0 := Lib.hid b0
  have PQ := Lib.hid pq
  have PK := Lib.hid pk
  refine (H1.out W rx ry).mono ?_
  rintro e w1 ⟨v, rfl, hI, hb⟩
  obtain ⟨A1, c1, rfl, r1⟩ := hI.raw
  have hI1 := hI.alloc (.cells #[.bool (decide (z < 0)), .slice A1 (natL z.natAbs).length c1] 24)
  have hz1 := Pair.new w1 24 (.bool (decide (z < 0))) (.slice A1 (natL z.natAbs).length c1)
  have hb1 := hb.alloc hb.size (.cells #[.bool (decide (z < 0)), .slice A1 (natL z.natAbs).length c1] 24)
  have r1' := r1.alloc (.cells #[.bool (decide (z < 0)), .slice A1 (natL z.natAbs).length c1] 24)
  have hs1 := hb.size
  have hsW : w.heap.size + 1 + 1 < W.heap.size := pq.blk.lt
  have HM := Lib.hid (fun (V : World) (a : Raw V A1 c1 (natL z.natAbs)) => may1 z A1 c1 V a 24 true (by simp [HF.out]))
  clear px py pq rx ry pk l1 x0 x1 l2 y0 y1 H1 r1 b0 hb hI
  obtain ⟨W1, E1⟩ : ∃ W1, W1 = w1.alloc (.cells #[.bool (decide (z < 0)), .slice A1 (natL z.natAbs).length c1] 24) := ⟨_, rfl⟩
  have hsz1 : w1.heap.size < W1.heap.size := by rw [E1]; simp
  obtain ⟨l3, z0, z1, -, -⟩ := hz1.facts
  go_upto_region 4 with fail
  rw [← E1] at hz1 hb1 r1' hI1 z0 z1 l3 ⊢
  clear E1
  go_wp2_with fail
  refine (HM.out W1 r1').mono ?_
  rintro e w3 ⟨rfl, hb3⟩
  have hbb := belowTo hb1 hb3
  have pk3 := (PK.out.below hbb (by have := PK.out.lt; exact this))
  have hset := set_same pk3
  have k0 := pk3.cell 0
  have kf := pk3.frozen 0
  have kl := pk3.lt
  simp at k0
  have hz3 := hz1.below hb3
  have hI3 := hI1.below hb3
  have pq3 := PQ.out.below hbb
  have HBB := Lib.hid hbb
  clear l3 z0 z1 hb1 hb3 r1' hz1 hbb HM hI1
  go_upto_region 5 with fail
  clear hset k0 kf kl pk3
  obtain ⟨l3, z0, z1, -, -⟩ := hz3.facts
  obtain ⟨l4, q0, q1, f0, f1⟩ := pq3.facts
  have HQ := Lib.hid (pq3.store (.bool (decide (z < 0))) (.slice A1 (natL z.natAbs).length c1))
  have HB := Lib.hid (below2 (belowTo B0.out HBB.out) (show w.heap.size ≤ w.heap.size + 1 + 1 by omega) (.bool (decide (z < 0))) (.slice A1 (natL z.natAbs).length c1))
  have HR := Lib.hid (hI3.pair (g := w.heap.size + 1 + 1) (a := .bool (decide (z < 0))) (b := .slice A1 (natL z.natAbs).length c1) (by omega))
  clear hz3 hI3 pq3
  go_wp2_with fail
  obtain ⟨_, k0, k1, _, _⟩ := HQ.out.facts
  exact bodyPost_ret (by simp [results, Tryd.results18, go_sem, k0, k1]) rfl ⟨_, rfl, HR.out.base (by omega), HB.out⟩
theorem times_z (x y z : Int) (A B : Option Addr) (c d p : Nat) (hx : Fit x) (hy : Fit y) (w : World) (h : Raw w A c (natL x.natAbs)) (g : Raw w B d (natL y.natAbs)) (hp : Blk w p 4 #[.bool true]) (hz : z = x * y) (fz : Fit z) :
    Calls Tryd.prog 18 #[.agg #[.bool (decide (x < 0)), .slice A (natL x.natAbs).length c], .agg #[.bool (decide (y < 0)), .slice B (natL y.natAbs).length d], .pointer (some ⟨p, 0, none⟩)] w (RetN1 w z) :=
  (times_o x y z A B c d p hx hy w h g hp hz fz).mono fun _ _ q => q.n1
end Go.Proofs.YtpcdiijmhllejaaDoor
