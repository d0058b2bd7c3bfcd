/- The things of kind 3: the ring that tells what was done. (Written by wip/mat/genring3.py.) -/
import Derived.Test.YtalalbhhlbeghaaRef08c
import Derived.Test.YtalalbhhlbeghaaFour
namespace Go.Proofs.Ytalalbhhlbeghaa
open Go.RowKit
attribute [local go_sem] run_store_complex

set_option maxRecDepth 100000 in
set_option maxHeartbeats 1000000 in
theorem ring3_add (a b : Int) (w : World) :
    Calls Try.prog 61 #[thV 3 a, thV 3 b] w fun e w' => e = .returned (thV 3 (mixv 1 a b)) ∧ Below w.heap.size w w' := by
  have p0 := (((Blk.new w 58 #[.int .i64 3, .int .i64 a, .complex .f64 0 0]).alloc (.cells #[.int .i64 3, .int .i64 b, .complex .f64 0 0] 58)).alloc (.cells #[.int .i64 0, .int .i64 0, .complex .f64 0 0] 58))
  have p1 := ((Blk.new (w.alloc (.cells #[.int .i64 3, .int .i64 a, .complex .f64 0 0] 58)) 58 #[.int .i64 3, .int .i64 b, .complex .f64 0 0]).alloc (.cells #[.int .i64 0, .int .i64 0, .complex .f64 0 0] 58))
  simp only [World.size_alloc] at p1
  have r0 := Blk.new ((w.alloc (.cells #[.int .i64 3, .int .i64 a, .complex .f64 0 0] 58)).alloc (.cells #[.int .i64 3, .int .i64 b, .complex .f64 0 0] 58)) 58 #[.int .i64 0, .int .i64 0, .complex .f64 0 0]
  simp only [World.size_alloc] at r0
  have hB := (((Below.refl w.heap.size w).alloc (by simp; try omega) (.cells #[.int .i64 3, .int .i64 a, .complex .f64 0 0] 58)).alloc (by simp; try omega) (.cells #[.int .i64 3, .int .i64 b, .complex .f64 0 0] 58)).alloc (by simp; try omega) (.cells #[.int .i64 0, .int .i64 0, .complex .f64 0 0] 58)
  go_enter Try.func61, Try.ntmps61
  go_wp2_with fail
  obtain ⟨W, E⟩ : ∃ W, W = (((w.alloc (.cells #[.int .i64 3, .int .i64 a, .complex .f64 0 0] 58)).alloc (.cells #[.int .i64 3, .int .i64 b, .complex .f64 0 0] 58)).alloc (.cells #[.int .i64 0, .int .i64 0, .complex .f64 0 0] 58)) := ⟨_, rfl⟩
  have hz : W.heap.size = w.heap.size + 1 + 1 + 1 := by rw [E]; simp
  rw [← E] at r0 hB ⊢
  rw [← E] at p0
  rw [← E] at p1
  clear E
  have hlen : w.heap.size + 1 + 1 < W.heap.size := by omega
  have HL := Lib.hid hlen
  have HB := Lib.hid hB
  clear hz hlen hB
  have P0 := Lib.hid (fun V (hV : Below (w.heap.size + 1 + 1) W V) => p0.below hV (show w.heap.size < w.heap.size + 1 + 1 by omega))
  have P1 := Lib.hid (fun V (hV : Below (w.heap.size + 1 + 1) W V) => p1.below hV (show w.heap.size + 1 < w.heap.size + 1 + 1 by omega))
  clear p0 p1
  refine wp_region_list [.val (.pointer (some ⟨w.heap.size, 0, none⟩)), .val (.int .i64 3), .val (.pointer (some ⟨w.heap.size, 1, none⟩)), .val (.int .i64 a), .val (.pointer (some ⟨w.heap.size + 1, 1, none⟩)), .val (.int .i64 b), .val (.int .i64 (mixv 1 a b)), .val (thV 3 (mixv 1 a b)), .old 4 (w.heap.size + 1 + 1) 58 7 #[.int .i64 3, .int .i64 (mixv 1 a b), .complex .f64 0 0]]
    (w.heap.size + 1 + 1) W #[.int .i64 0, .int .i64 0, .complex .f64 0 0] _ mixedOrders (Nat.le_of_lt HL.out) (Below.refl _ _) rfl (by kernel_rfl) (by kernel_rfl) (by kernel_rfl) (by kernel_rfl) (by kernel_rfl) rfl (by kernel_rfl) (by kernel_rfl) (by kernel_rfl) ?_ ?_ ?_ ?_ ?_
  · clear r0
    simp [ValOk, fill, pairs, isVal, clsOf]
    repeat' apply And.intro
    all_goals
      intro V hV _
      have n0 := P0.out V hV
      have c0_0 := n0.cell 0
      have c0_1 := n0.cell 1
      have c0_2 := n0.cell 2
      have n1 := P1.out V hV
      have c1_0 := n1.cell 0
      have c1_1 := n1.cell 1
      have c1_2 := n1.cell 2
      simp at c0_0 c0_1 c0_2 c1_0 c1_1 c1_2
      clear hV n0 n1
      go_simp
      first | exact Below.refl _ _ | ((with_reducible refine (mix_any _ _ _ _).mono ?_); rintro e w' ⟨rfl, rfl⟩; exact ⟨rfl, Below.refl _ _⟩)
  · simp only [NewOk]
  · simp only [PutOk]
  · refine And.intro (b := True) ?_ trivial
    exact ⟨Nat.le_refl _, HL.out, r0, rfl, _, rfl, rfl, rfl, rfl, by kernel_rfl, rfl, by kernel_rfl, thingInfoR, by kernel_rfl⟩
  · intro bs V hV _ _ _ ho
    have hb := (ho 8 _ _ _ _ _ rfl).cell
    clear ho r0
    simp [fill, pairs, clsOf, Cls.of]
    go_wp2
    exact bodyPost_ret (by simp [results, Try.results61, go_sem, hb]) rfl ⟨rfl, HB.out.trans (hV.mono (by omega))⟩

set_option maxRecDepth 100000 in
set_option maxHeartbeats 1000000 in
theorem ring3_mul (a b : Int) (w : World) :
    Calls Try.prog 62 #[thV 3 a, thV 3 b] w fun e w' => e = .returned (thV 3 (mixv 2 a b)) ∧ Below w.heap.size w w' := by
  have p0 := (((Blk.new w 58 #[.int .i64 3, .int .i64 a, .complex .f64 0 0]).alloc (.cells #[.int .i64 3, .int .i64 b, .complex .f64 0 0] 58)).alloc (.cells #[.int .i64 0, .int .i64 0, .complex .f64 0 0] 58))
  have p1 := ((Blk.new (w.alloc (.cells #[.int .i64 3, .int .i64 a, .complex .f64 0 0] 58)) 58 #[.int .i64 3, .int .i64 b, .complex .f64 0 0]).alloc (.cells #[.int .i64 0, .int .i64 0, .complex .f64 0 0] 58))
  simp only [World.size_alloc] at p1
  have r0 := Blk.new ((w.alloc (.cells #[.int .i64 3, .int .i64 a, .complex .f64 0 0] 58)).alloc (.cells #[.int .i64 3, .int .i64 b, .complex .f64 0 0] 58)) 58 #[.int .i64 0, .int .i64 0, .complex .f64 0 0]
  simp only [World.size_alloc] at r0
  have hB := (((Below.refl w.heap.size w).alloc (by simp; try omega) (.cells #[.int .i64 3, .int .i64 a, .complex .f64 0 0] 58)).alloc (by simp; try omega) (.cells #[.int .i64 3, .int .i64 b, .complex .f64 0 0] 58)).alloc (by simp; try omega) (.cells #[.int .i64 0, .int .i64 0, .complex .f64 0 0] 58)
  go_enter Try.func62, Try.ntmps62
  go_wp2_with fail
  obtain ⟨W, E⟩ : ∃ W, W = (((w.alloc (.cells #[.int .i64 3, .int .i64 a, .complex .f64 0 0] 58)).alloc (.cells #[.int .i64 3, .int .i64 b, .complex .f64 0 0] 58)).alloc (.cells #[.int .i64 0, .int .i64 0, .complex .f64 0 0] 58)) := ⟨_, rfl⟩
  have hz : W.heap.size = w.heap.size + 1 + 1 + 1 := by rw [E]; simp
  rw [← E] at r0 hB ⊢
  rw [← E] at p0
  rw [← E] at p1
  clear E
  have hlen : w.heap.size + 1 + 1 < W.heap.size := by omega
  have HL := Lib.hid hlen
  have HB := Lib.hid hB
  clear hz hlen hB
  have P0 := Lib.hid (fun V (hV : Below (w.heap.size + 1 + 1) W V) => p0.below hV (show w.heap.size < w.heap.size + 1 + 1 by omega))
  have P1 := Lib.hid (fun V (hV : Below (w.heap.size + 1 + 1) W V) => p1.below hV (show w.heap.size + 1 < w.heap.size + 1 + 1 by omega))
  clear p0 p1
  refine wp_region_list [.val (.pointer (some ⟨w.heap.size, 0, none⟩)), .val (.int .i64 3), .val (.pointer (some ⟨w.heap.size, 1, none⟩)), .val (.int .i64 a), .val (.pointer (some ⟨w.heap.size + 1, 1, none⟩)), .val (.int .i64 b), .val (.int .i64 (mixv 2 a b)), .val (thV 3 (mixv 2 a b)), .old 4 (w.heap.size + 1 + 1) 58 7 #[.int .i64 3, .int .i64 (mixv 2 a b), .complex .f64 0 0]]
    (w.heap.size + 1 + 1) W #[.int .i64 0, .int .i64 0, .complex .f64 0 0] _ mixedOrders (Nat.le_of_lt HL.out) (Below.refl _ _) rfl (by kernel_rfl) (by kernel_rfl) (by kernel_rfl) (by kernel_rfl) (by kernel_rfl) rfl (by kernel_rfl) (by kernel_rfl) (by kernel_rfl) ?_ ?_ ?_ ?_ ?_
  · clear r0
    simp [ValOk, fill, pairs, isVal, clsOf]
    repeat' apply And.intro
    all_goals
      intro V hV _
      have n0 := P0.out V hV
      have c0_0 := n0.cell 0
      have c0_1 := n0.cell 1
      have c0_2 := n0.cell 2
      have n1 := P1.out V hV
      have c1_0 := n1.cell 0
      have c1_1 := n1.cell 1
      have c1_2 := n1.cell 2
      simp at c0_0 c0_1 c0_2 c1_0 c1_1 c1_2
      clear hV n0 n1
      go_simp
      first | exact Below.refl _ _ | ((with_reducible refine (mix_any _ _ _ _).mono ?_); rintro e w' ⟨rfl, rfl⟩; exact ⟨rfl, Below.refl _ _⟩)
  · simp only [NewOk]
  · simp only [PutOk]
  · refine And.intro (b := True) ?_ trivial
    exact ⟨Nat.le_refl _, HL.out, r0, rfl, _, rfl, rfl, rfl, rfl, by kernel_rfl, rfl, by kernel_rfl, thingInfoR, by kernel_rfl⟩
  · intro bs V hV _ _ _ ho
    have hb := (ho 8 _ _ _ _ _ rfl).cell
    clear ho r0
    simp [fill, pairs, clsOf, Cls.of]
    go_wp2
    exact bodyPost_ret (by simp [results, Try.results62, go_sem, hb]) rfl ⟨rfl, HB.out.trans (hV.mono (by omega))⟩

set_option maxRecDepth 100000 in
set_option maxHeartbeats 1000000 in
theorem ring3_neg (a : Int) (w : World) :
    Calls Try.prog 63 #[thV 3 a] w fun e w' => e = .returned (thV 3 (mixv 3 a 0)) ∧ Below w.heap.size w w' := by
  have p0 := ((Blk.new w 58 #[.int .i64 3, .int .i64 a, .complex .f64 0 0]).alloc (.cells #[.int .i64 0, .int .i64 0, .complex .f64 0 0] 58))
  have r0 := Blk.new (w.alloc (.cells #[.int .i64 3, .int .i64 a, .complex .f64 0 0] 58)) 58 #[.int .i64 0, .int .i64 0, .complex .f64 0 0]
  simp only [World.size_alloc] at r0
  have hB := ((Below.refl w.heap.size w).alloc (by simp; try omega) (.cells #[.int .i64 3, .int .i64 a, .complex .f64 0 0] 58)).alloc (by simp; try omega) (.cells #[.int .i64 0, .int .i64 0, .complex .f64 0 0] 58)
  go_enter Try.func63, Try.ntmps63
  go_wp2_with fail
  obtain ⟨W, E⟩ : ∃ W, W = ((w.alloc (.cells #[.int .i64 3, .int .i64 a, .complex .f64 0 0] 58)).alloc (.cells #[.int .i64 0, .int .i64 0, .complex .f64 0 0] 58)) := ⟨_, rfl⟩
  have hz : W.heap.size = w.heap.size + 1 + 1 := by rw [E]; simp
  rw [← E] at r0 hB ⊢
  rw [← E] at p0
  clear E
  have hlen : w.heap.size + 1 < W.heap.size := by omega
  have HL := Lib.hid hlen
  have HB := Lib.hid hB
  clear hz hlen hB
  have P0 := Lib.hid (fun V (hV : Below (w.heap.size + 1) W V) => p0.below hV (show w.heap.size < w.heap.size + 1 by omega))
  clear p0
  refine wp_region_list [.val (.pointer (some ⟨w.heap.size, 0, none⟩)), .val (.int .i64 3), .val (.pointer (some ⟨w.heap.size, 1, none⟩)), .val (.int .i64 a), .val (.int .i64 (mixv 3 a 0)), .val (thV 3 (mixv 3 a 0)), .old 2 (w.heap.size + 1) 58 5 #[.int .i64 3, .int .i64 (mixv 3 a 0), .complex .f64 0 0]]
    (w.heap.size + 1) W #[.int .i64 0, .int .i64 0, .complex .f64 0 0] _ mixedOrders (Nat.le_of_lt HL.out) (Below.refl _ _) rfl (by kernel_rfl) (by kernel_rfl) (by kernel_rfl) (by kernel_rfl) (by kernel_rfl) rfl (by kernel_rfl) (by kernel_rfl) (by kernel_rfl) ?_ ?_ ?_ ?_ ?_
  · clear r0
    simp [ValOk, fill, pairs, isVal, clsOf]
    repeat' apply And.intro
    all_goals
      intro V hV _
      have n0 := P0.out V hV
      have c0_0 := n0.cell 0
      have c0_1 := n0.cell 1
      have c0_2 := n0.cell 2
      simp at c0_0 c0_1 c0_2
      clear hV n0
      go_simp
      first | exact Below.refl _ _ | ((with_reducible refine (mix_any _ _ _ _).mono ?_); rintro e w' ⟨rfl, rfl⟩; exact ⟨rfl, Below.refl _ _⟩)
  · simp only [NewOk]
  · simp only [PutOk]
  · refine And.intro (b := True) ?_ trivial
    exact ⟨Nat.le_refl _, HL.out, r0, rfl, _, rfl, rfl, rfl, rfl, by kernel_rfl, rfl, by kernel_rfl, thingInfoR, by kernel_rfl⟩
  · intro bs V hV _ _ _ ho
    have hb := (ho 6 _ _ _ _ _ rfl).cell
    clear ho r0
    simp [fill, pairs, clsOf, Cls.of]
    go_wp2
    exact bodyPost_ret (by simp [results, Try.results63, go_sem, hb]) rfl ⟨rfl, HB.out.trans (hV.mono (by omega))⟩

theorem ring3 : RefRing 3 toldR := ⟨ring3_add, ring3_mul, ring3_neg, ring3_like⟩

set_option maxRecDepth 100000 in
set_option maxHeartbeats 400000 in
theorem told_Told (m : M4) (w : World) :
    Calls Try.prog 45 #[mv m] w fun e w' => e = .returned (.agg #[.int .i64 m.a, .int .i64 m.b, .int .i64 m.c, .int .i64 m.d]) ∧ Below w.heap.size w w' := by
  go_enter Try.func45, Try.ntmps45
  go_wp2
  exact bodyPost_ret (by simp [results, Try.results45, go_sem]) rfl ⟨rfl, by repeat (first | exact Below.refl _ _ | apply Below.drew | refine Below.alloc ?_ (by simp; try omega) _)⟩
end Go.Proofs.Ytalalbhhlbeghaa
