/- Contracts of the document's matrices: Mul, Det, Trace, Turned, over any ring of things. (Written by wip/mat/genref.py.) -/
import Derived.Test.YtalalbhhlbeghaaRef08b
namespace Go.Proofs.Ytalalbhhlbeghaa
open Go.RowKit
attribute [local go_sem] run_store_complex

/-- The three cells of a thing's own block. -/
structure Pair3 (w : World) (g : Nat) (t : TypeId) (a b c : Value) : Prop where
  blk : Blk w g t #[a, b, c]
theorem Pair3.new (w : World) (t : TypeId) (a b c : Value) : Pair3 (w.alloc (.cells #[a, b, c] t)) w.heap.size t a b c := ⟨Blk.new w t #[a, b, c]⟩
theorem Pair3.below {w w' : World} {g : Nat} {t : TypeId} {a b c : Value} (h : Pair3 w g t a b c) (hb : Below w.heap.size w w') : Pair3 w' g t a b c := ⟨h.blk.below hb h.blk.lt⟩
theorem Pair3.facts {w : World} {g : Nat} {t : TypeId} {a b c : Value} (h : Pair3 w g t a b c) : g < w.heap.size ∧ w.cell? ⟨g, 0, none⟩ = some a ∧ w.cell? ⟨g, 1, none⟩ = some b ∧ w.cell? ⟨g, 2, none⟩ = some c ∧ w.frozen? ⟨g, 0, none⟩ = false ∧ w.frozen? ⟨g, 1, none⟩ = false ∧ w.frozen? ⟨g, 2, none⟩ = false :=
  ⟨h.blk.lt, h.blk.cell 0, h.blk.cell 1, h.blk.cell 2, h.blk.frozen 0, h.blk.frozen 1, h.blk.frozen 2⟩
theorem Pair3.store {w : World} {g : Nat} {t : TypeId} {a b c : Value} (h : Pair3 w g t a b c) (x y z : Value) : Pair3 (((w.setCell ⟨g, 0, none⟩ x).setCell ⟨g, 1, none⟩ y).setCell ⟨g, 2, none⟩ z) g t x y z := by
  have k := ((h.blk.set_ 0 x).set_ 1 y).set_ 2 z
  exact ⟨k⟩

theorem thingInfoR : (Try.prog.info? 58).map (·.size) = some 3 := by kernel_rfl

set_option maxRecDepth 100000 in
set_option maxHeartbeats 1000000 in
theorem r_Mul {k : Int} {R : Rng} (H : RefRing k R) (m n : M4) (w : World) :
    Calls Try.prog 30 #[matR k m, matR k n] w fun e w' => e = .returned (matR k (M4.gmul R m n)) ∧ Below w.heap.size w w' := by
  have HR := Lib.hid H
  clear H
  have p0 := (((Blk.new w 60 (matC k m)).alloc (.cells (matC k n) 60)).alloc (.cells (matC 0 ⟨0, 0, 0, 0⟩) 60))
  have p1 := ((Blk.new (w.alloc (.cells (matC k m) 60)) 60 (matC k n)).alloc (.cells (matC 0 ⟨0, 0, 0, 0⟩) 60))
  simp only [World.size_alloc] at p1
  have r0 := Blk.new ((w.alloc (.cells (matC k m) 60)).alloc (.cells (matC k n) 60)) 60 (matC 0 ⟨0, 0, 0, 0⟩)
  simp only [World.size_alloc] at r0
  have hB := (((Below.refl w.heap.size w).alloc (by simp; try omega) (.cells (matC k m) 60)).alloc (by simp; try omega) (.cells (matC k n) 60)).alloc (by simp; try omega) (.cells (matC 0 ⟨0, 0, 0, 0⟩) 60)
  go_enter Try.func30, Try.ntmps30
  go_wp2_with fail
  obtain ⟨W, E⟩ : ∃ W, W = (((w.alloc (.cells (matC k m) 60)).alloc (.cells (matC k n) 60)).alloc (.cells (matC 0 ⟨0, 0, 0, 0⟩) 60)) := ⟨_, rfl⟩
  have hz : W.heap.size = w.heap.size + 1 + 1 + 1 := by rw [E]; simp
  rw [← E] at r0 hB ⊢
  rw [← E] at p0
  rw [← E] at p1
  clear E
  have hlen : w.heap.size + 1 + 1 < W.heap.size := by omega
  have HL := Lib.hid hlen
  have HB := Lib.hid hB
  have HZ := Lib.hid hz
  clear hz hlen hB
  have P0 := Lib.hid (fun V (hV : Below (w.heap.size + 1 + 1) W V) => p0.below hV (show w.heap.size < w.heap.size + 1 + 1 by omega))
  have P1 := Lib.hid (fun V (hV : Below (w.heap.size + 1 + 1) W V) => p1.below hV (show w.heap.size + 1 < w.heap.size + 1 + 1 by omega))
  clear p0 p1
  refine wp_region_list [.val (.pointer (some ⟨w.heap.size, 0, none⟩)), .val (thV k (m.a)), .val (.pointer (some ⟨w.heap.size + 1, 0, none⟩)), .val (thV k (n.a)), .val (thV k (R.mul m.a n.a)), .val (.pointer (some ⟨w.heap.size, 3, none⟩)), .val (thV k (m.b)), .val (.pointer (some ⟨w.heap.size + 1, 6, none⟩)), .val (thV k (n.c)), .val (thV k (R.mul m.b n.c)), .val (thV k (R.add (R.mul m.a n.a) (R.mul m.b n.c))), .val (.pointer (some ⟨w.heap.size, 0, none⟩)), .val (thV k (m.a)), .val (.pointer (some ⟨w.heap.size + 1, 3, none⟩)), .val (thV k (n.b)), .val (thV k (R.mul m.a n.b)), .val (.pointer (some ⟨w.heap.size, 3, none⟩)), .val (thV k (m.b)), .val (.pointer (some ⟨w.heap.size + 1, 9, none⟩)), .val (thV k (n.d)), .val (thV k (R.mul m.b n.d)), .val (thV k (R.add (R.mul m.a n.b) (R.mul m.b n.d))), .val (.pointer (some ⟨w.heap.size, 6, none⟩)), .val (thV k (m.c)), .val (.pointer (some ⟨w.heap.size + 1, 0, none⟩)), .val (thV k (n.a)), .val (thV k (R.mul m.c n.a)), .val (.pointer (some ⟨w.heap.size, 9, none⟩)), .val (thV k (m.d)), .val (.pointer (some ⟨w.heap.size + 1, 6, none⟩)), .val (thV k (n.c)), .val (thV k (R.mul m.d n.c)), .val (thV k (R.add (R.mul m.c n.a) (R.mul m.d n.c))), .val (.pointer (some ⟨w.heap.size, 6, none⟩)), .val (thV k (m.c)), .val (.pointer (some ⟨w.heap.size + 1, 3, none⟩)), .val (thV k (n.b)), .val (thV k (R.mul m.c n.b)), .val (.pointer (some ⟨w.heap.size, 9, none⟩)), .val (thV k (m.d)), .val (.pointer (some ⟨w.heap.size + 1, 9, none⟩)), .val (thV k (n.d)), .val (thV k (R.mul m.d n.d)), .val (thV k (R.add (R.mul m.c n.b) (R.mul m.d n.d))), .val (matR k (M4.gmul R m n)), .old 4 (w.heap.size + 1 + 1) 60 44 (matC k (M4.gmul R m n))]
    (w.heap.size + 1 + 1) W (matC 0 ⟨0, 0, 0, 0⟩) _ mixedOrders (Nat.le_of_lt HL.out) (Below.refl _ _) rfl (by kernel_rfl) (by kernel_rfl) (by kernel_rfl) (by kernel_rfl) (by kernel_rfl) rfl (by kernel_rfl) (by kernel_rfl) (by kernel_rfl) ?_ ?_ ?_ ?_ ?_
  · clear r0
    simp [ValOk, fill, pairs, isVal, clsOf]
    repeat' apply And.intro
    all_goals
      intro V hV _
      have n0 := P0.out V hV
      have c0_0 := n0.cell 0
      have c0_1 := n0.cell 1
      have c0_2 := n0.cell 2
      have c0_3 := n0.cell 3
      have c0_4 := n0.cell 4
      have c0_5 := n0.cell 5
      have c0_6 := n0.cell 6
      have c0_7 := n0.cell 7
      have c0_8 := n0.cell 8
      have c0_9 := n0.cell 9
      have c0_10 := n0.cell 10
      have c0_11 := n0.cell 11
      have n1 := P1.out V hV
      have c1_0 := n1.cell 0
      have c1_1 := n1.cell 1
      have c1_2 := n1.cell 2
      have c1_3 := n1.cell 3
      have c1_4 := n1.cell 4
      have c1_5 := n1.cell 5
      have c1_6 := n1.cell 6
      have c1_7 := n1.cell 7
      have c1_8 := n1.cell 8
      have c1_9 := n1.cell 9
      have c1_10 := n1.cell 10
      have c1_11 := n1.cell 11
      simp at c0_0 c0_1 c0_2 c0_3 c0_4 c0_5 c0_6 c0_7 c0_8 c0_9 c0_10 c0_11 c1_0 c1_1 c1_2 c1_3 c1_4 c1_5 c1_6 c1_7 c1_8 c1_9 c1_10 c1_11
      clear hV n0 n1
      go_simp
      first | exact Below.refl _ _ | exact ⟨⟨rfl, rfl, rfl, rfl⟩, Below.refl _ _⟩ | ((with_reducible refine (HR.out.add _ _ _).mono ?_); rintro e w' ⟨rfl, hb⟩; exact ⟨rfl, hb⟩) | ((with_reducible refine (HR.out.mul _ _ _).mono ?_); rintro e w' ⟨rfl, hb⟩; exact ⟨rfl, hb⟩)
  · simp only [NewOk]
  · simp only [PutOk]
  · refine And.intro (b := True) ?_ trivial
    exact ⟨Nat.le_refl _, HL.out, r0, rfl, _, rfl, rfl, rfl, rfl, by kernel_rfl, rfl, by kernel_rfl, matInfoR, by kernel_rfl⟩
  · intro bs V hV _ _ _ ho
    have hb := (ho 45 _ _ _ _ _ rfl).cell
    clear ho r0
    simp [fill, pairs, clsOf, Cls.of]
    go_wp2
    exact bodyPost_ret (by simp [results, Try.results30, go_sem, hb]) rfl ⟨rfl, HB.out.trans (hV.mono (by omega))⟩

set_option maxRecDepth 100000 in
set_option maxHeartbeats 1000000 in
theorem r_Det {k : Int} {R : Rng} (H : RefRing k R) (m : M4) (w : World) :
    Calls Try.prog 31 #[matR k m] w fun e w' => e = .returned (thV k (M4.gdet R m)) ∧ Below w.heap.size w w' := by
  have HR := Lib.hid H
  clear H
  have p0 := ((Blk.new w 60 (matC k m)).alloc (.cells #[.int .i64 0, .int .i64 0, .complex .f64 0 0] 58))
  have r0 := Blk.new (w.alloc (.cells (matC k m) 60)) 58 #[.int .i64 0, .int .i64 0, .complex .f64 0 0]
  simp only [World.size_alloc] at r0
  have hB := ((Below.refl w.heap.size w).alloc (by simp; try omega) (.cells (matC k m) 60)).alloc (by simp; try omega) (.cells #[.int .i64 0, .int .i64 0, .complex .f64 0 0] 58)
  go_enter Try.func31, Try.ntmps31
  go_wp2_with fail
  obtain ⟨W, E⟩ : ∃ W, W = ((w.alloc (.cells (matC k m) 60)).alloc (.cells #[.int .i64 0, .int .i64 0, .complex .f64 0 0] 58)) := ⟨_, rfl⟩
  have hz : W.heap.size = w.heap.size + 1 + 1 := by rw [E]; simp
  rw [← E] at r0 hB ⊢
  rw [← E] at p0
  clear E
  have hlen : w.heap.size + 1 < W.heap.size := by omega
  have HL := Lib.hid hlen
  have HB := Lib.hid hB
  have HZ := Lib.hid hz
  clear hz hlen hB
  have P0 := Lib.hid (fun V (hV : Below (w.heap.size + 1) W V) => p0.below hV (show w.heap.size < w.heap.size + 1 by omega))
  clear p0
  refine wp_region_list [.val (.pointer (some ⟨w.heap.size, 0, none⟩)), .val (thV k (m.a)), .val (.pointer (some ⟨w.heap.size, 9, none⟩)), .val (thV k (m.d)), .val (thV k (R.mul m.a m.d)), .val (.pointer (some ⟨w.heap.size, 3, none⟩)), .val (thV k (m.b)), .val (.pointer (some ⟨w.heap.size, 6, none⟩)), .val (thV k (m.c)), .val (thV k (R.mul m.b m.c)), .val (thV k (R.neg (R.mul m.b m.c))), .val (thV k (M4.gdet R m)), .old 2 (w.heap.size + 1) 58 11 #[.int .i64 k, .int .i64 (M4.gdet R m), .complex .f64 0 0]]
    (w.heap.size + 1) W #[.int .i64 0, .int .i64 0, .complex .f64 0 0] _ mixedOrders (Nat.le_of_lt HL.out) (Below.refl _ _) rfl (by kernel_rfl) (by kernel_rfl) (by kernel_rfl) (by kernel_rfl) (by kernel_rfl) rfl (by kernel_rfl) (by kernel_rfl) (by kernel_rfl) ?_ ?_ ?_ ?_ ?_
  · clear r0
    simp [ValOk, fill, pairs, isVal, clsOf]
    repeat' apply And.intro
    all_goals
      intro V hV _
      have n0 := P0.out V hV
      have c0_0 := n0.cell 0
      have c0_1 := n0.cell 1
      have c0_2 := n0.cell 2
      have c0_3 := n0.cell 3
      have c0_4 := n0.cell 4
      have c0_5 := n0.cell 5
      have c0_6 := n0.cell 6
      have c0_7 := n0.cell 7
      have c0_8 := n0.cell 8
      have c0_9 := n0.cell 9
      have c0_10 := n0.cell 10
      have c0_11 := n0.cell 11
      simp at c0_0 c0_1 c0_2 c0_3 c0_4 c0_5 c0_6 c0_7 c0_8 c0_9 c0_10 c0_11
      clear hV n0
      go_simp
      first | exact Below.refl _ _ | exact ⟨⟨rfl, rfl, rfl, rfl⟩, Below.refl _ _⟩ | ((with_reducible refine (HR.out.add _ _ _).mono ?_); rintro e w' ⟨rfl, hb⟩; exact ⟨rfl, hb⟩) | ((with_reducible refine (HR.out.mul _ _ _).mono ?_); rintro e w' ⟨rfl, hb⟩; exact ⟨rfl, hb⟩) | ((with_reducible refine (HR.out.neg _ _).mono ?_); rintro e w' ⟨rfl, hb⟩; exact ⟨rfl, hb⟩)
  · simp only [NewOk]
  · simp only [PutOk]
  · refine And.intro (b := True) ?_ trivial
    exact ⟨Nat.le_refl _, HL.out, r0, rfl, _, rfl, rfl, rfl, rfl, by kernel_rfl, rfl, by kernel_rfl, thingInfoR, by kernel_rfl⟩
  · intro bs V hV _ _ _ ho
    have hb := (ho 12 _ _ _ _ _ rfl).cell
    clear ho r0
    simp [fill, pairs, clsOf, Cls.of]
    go_wp2
    exact bodyPost_ret (by simp [results, Try.results31, go_sem, hb]) rfl ⟨rfl, HB.out.trans (hV.mono (by omega))⟩

set_option maxRecDepth 100000 in
set_option maxHeartbeats 1000000 in
theorem r_Turned {k : Int} {R : Rng} (H : RefRing k R) (m : M4) (w : World) :
    Calls Try.prog 33 #[matR k m] w fun e w' => e = .returned (matR k (M4.gturned R m)) ∧ Below w.heap.size w w' := by
  have HR := Lib.hid H
  clear H
  have p0 := ((Blk.new w 60 (matC k m)).alloc (.cells (matC 0 ⟨0, 0, 0, 0⟩) 60))
  have r0 := Blk.new (w.alloc (.cells (matC k m) 60)) 60 (matC 0 ⟨0, 0, 0, 0⟩)
  simp only [World.size_alloc] at r0
  have hB := ((Below.refl w.heap.size w).alloc (by simp; try omega) (.cells (matC k m) 60)).alloc (by simp; try omega) (.cells (matC 0 ⟨0, 0, 0, 0⟩) 60)
  go_enter Try.func33, Try.ntmps33
  go_wp2_with fail
  obtain ⟨W, E⟩ : ∃ W, W = ((w.alloc (.cells (matC k m) 60)).alloc (.cells (matC 0 ⟨0, 0, 0, 0⟩) 60)) := ⟨_, rfl⟩
  have hz : W.heap.size = w.heap.size + 1 + 1 := by rw [E]; simp
  rw [← E] at r0 hB ⊢
  rw [← E] at p0
  clear E
  have hlen : w.heap.size + 1 < W.heap.size := by omega
  have HL := Lib.hid hlen
  have HB := Lib.hid hB
  have HZ := Lib.hid hz
  clear hz hlen hB
  have P0 := Lib.hid (fun V (hV : Below (w.heap.size + 1) W V) => p0.below hV (show w.heap.size < w.heap.size + 1 by omega))
  clear p0
  refine wp_region_list [.val (.pointer (some ⟨w.heap.size, 9, none⟩)), .val (thV k (m.d)), .val (.pointer (some ⟨w.heap.size, 3, none⟩)), .val (thV k (m.b)), .val (thV k (R.neg m.b)), .val (.pointer (some ⟨w.heap.size, 6, none⟩)), .val (thV k (m.c)), .val (thV k (R.neg m.c)), .val (.pointer (some ⟨w.heap.size, 0, none⟩)), .val (thV k (m.a)), .val (matR k (M4.gturned R m)), .old 2 (w.heap.size + 1) 60 10 (matC k (M4.gturned R m))]
    (w.heap.size + 1) W (matC 0 ⟨0, 0, 0, 0⟩) _ mixedOrders (Nat.le_of_lt HL.out) (Below.refl _ _) rfl (by kernel_rfl) (by kernel_rfl) (by kernel_rfl) (by kernel_rfl) (by kernel_rfl) rfl (by kernel_rfl) (by kernel_rfl) (by kernel_rfl) ?_ ?_ ?_ ?_ ?_
  · clear r0
    simp [ValOk, fill, pairs, isVal, clsOf]
    repeat' apply And.intro
    all_goals
      intro V hV _
      have n0 := P0.out V hV
      have c0_0 := n0.cell 0
      have c0_1 := n0.cell 1
      have c0_2 := n0.cell 2
      have c0_3 := n0.cell 3
      have c0_4 := n0.cell 4
      have c0_5 := n0.cell 5
      have c0_6 := n0.cell 6
      have c0_7 := n0.cell 7
      have c0_8 := n0.cell 8
      have c0_9 := n0.cell 9
      have c0_10 := n0.cell 10
      have c0_11 := n0.cell 11
      simp at c0_0 c0_1 c0_2 c0_3 c0_4 c0_5 c0_6 c0_7 c0_8 c0_9 c0_10 c0_11
      clear hV n0
      go_simp
      first | exact Below.refl _ _ | exact ⟨⟨rfl, rfl, rfl, rfl⟩, Below.refl _ _⟩ | ((with_reducible refine (HR.out.neg _ _).mono ?_); rintro e w' ⟨rfl, hb⟩; exact ⟨rfl, hb⟩)
  · simp only [NewOk]
  · simp only [PutOk]
  · refine And.intro (b := True) ?_ trivial
    exact ⟨Nat.le_refl _, HL.out, r0, rfl, _, rfl, rfl, rfl, rfl, by kernel_rfl, rfl, by kernel_rfl, matInfoR, by kernel_rfl⟩
  · intro bs V hV _ _ _ ho
    have hb := (ho 11 _ _ _ _ _ rfl).cell
    clear ho r0
    simp [fill, pairs, clsOf, Cls.of]
    go_wp2
    exact bodyPost_ret (by simp [results, Try.results33, go_sem, hb]) rfl ⟨rfl, HB.out.trans (hV.mono (by omega))⟩

set_option maxRecDepth 100000 in
set_option maxHeartbeats 1000000 in
theorem r_Trace {k : Int} {R : Rng} (H : RefRing k R) (m : M4) (w : World) :
    Calls Try.prog 32 #[matR k m] w fun e w' => e = .returned (thV k (M4.gtrace R m)) ∧ Below w.heap.size w w' := by
  have HR := Lib.hid H
  clear H
  have r0 := Pair3.new (w.alloc (.cells (matC k m) 60)) 58 (.int .i64 0) (.int .i64 0) (.complex .f64 0 0)
  simp only [World.size_alloc] at r0
  have hB := ((Below.refl w.heap.size w).alloc (Nat.le_refl _) (.cells (matC k m) 60)).alloc (by simp) (.cells #[.int .i64 0, .int .i64 0, .complex .f64 0 0] 58)
  go_enter Try.func32, Try.ntmps32
  go_wp2_with fail
  refine (HR.out.add _ _ _).mono ?_
  rintro e V ⟨rfl, hV⟩
  have r1 := r0.below hV
  obtain ⟨l, c0, c1, c2, f0, f1, f2⟩ := r1.facts
  have hz := hV.size
  simp only [World.size_alloc] at hz
  go_wp2
  have hb := (r1.store (.int .i64 k) (.int .i64 (R.add m.a m.d)) (.complex .f64 0 0)).blk.cell
  clear c0 c1 c2 f0 f1 f2 r0 r1
  exact bodyPost_ret (by simp [results, Try.results32, go_sem, hb]; rfl) rfl ⟨rfl, (((hB.trans (hV.mono (by simp; omega))).setCell (by simp) _).setCell (by simp) _).setCell (by simp) _⟩
end Go.Proofs.Ytalalbhhlbeghaa
