/- MatSmalls: the walk. (Written by wip/mat/genwalk.py.) -/
import Derived.Test.YtalalbhhlbeghaaAt
import Derived.Test.YtalalbhhlbeghaaSmallPow
import Derived.Test.YtalalbhhlbeghaaSmallLike
import Derived.Test.YtalalbhhlbeghaaRef08f
import Derived.Test.YtalalbhhlbeghaaBeyond
import Derived.Test.YtalalbhhlbeghaaFours
import Derived.Deep.DeepCutAuto
namespace Go.Proofs.Ytalalbhhlbeghaa
open Go.RowKit
attribute [local go_sem] run_store_complex

theorem smalls_beyond (n : Nat) (t : TypeId) (V : World) (b : Nat) (hb : V.heap.size = b) :
    Calls Try.prog 27 #[.slice (some ⟨b, 0, none⟩) 1 1] (V.alloc (.cells #[.int .i64 (4 * min (n : Int) 67108864)] t)) fun e w' => e = .returned (.bool (decide (262144 < n))) ∧ V.alloc (.cells #[.int .i64 (4 * min (n : Int) 67108864)] t) = w' := by
  subst hb
  have e : (4 * min (n : Int) 67108864) = ((4 * min n 67108864 : Nat) : Int) := by omega
  rw [e]
  refine (beyond_one (4 * min n 67108864) (by omega) t V).mono ?_
  rintro e w' ⟨rfl, rfl⟩
  exact ⟨by rw [show decide (1048576 < 4 * min n 67108864) = decide (262144 < n) by rw [decide_eq_decide]; omega], rfl⟩
theorem smalls_info : (Try.prog.info? 38).map (fun i => (i.zero, i.size, i.bytes)) = some (some (.agg #[.int .i8 0, .int .i8 0, .int .i8 0, .int .i8 0]), 4, 4) := by kernel_rfl
theorem smalls_infoR : (Try.prog.info? 60).map (fun i => (i.zero, i.size, i.bytes)) = some (some (matR 0 ⟨0, 0, 0, 0⟩), 12, 128) := by kernel_rfl
theorem smalls_snoc (l : List M4) (n : Nat) (h : n < l.length) : smallCells ((l.map M4.low).take (n + 1)) = smallCells ((l.map M4.low).take n) ++ [.int .i8 (l[n]).low.a, .int .i8 (l[n]).low.b, .int .i8 (l[n]).low.c, .int .i8 (l[n]).low.d] := by
  unfold smallCells
  rw [List.take_succ_eq_append_getElem (by simpa using h), List.flatMap_append]; simp
theorem rCells_snoc_smalls (k : Int) (l : List M4) (n : Nat) (h : n < l.length) : rCells k ((l.map M4.low).take (n + 1)) = rCells k ((l.map M4.low).take n) ++ (matC k (l[n]).low).toList := by
  unfold rCells
  rw [List.take_succ_eq_append_getElem (by simpa using h), List.flatMap_append]; simp

set_option maxRecDepth 100000 in
set_option maxHeartbeats 3000000 in
theorem smalls_true (o m n : M4) (k : Nat) (hk : k ≤ 18446744073709551615) (A : Option Addr) (c : Nat) (l : List M4) (hl : l.length ≤ 9223372036854775807) (w : World) (hr : Reads w w.heap.size 4 A l.length (fourCells l)) :
    Calls Try.prog 7 #[mv o, mv m, mv n, .int .u64 k, .slice A l.length c] w fun e w' => e = .returned (.bool true) ∧ Below w.heap.size w w' := by
  have HL := Lib.hid hr
  have HK := Lib.hid hk
  clear hr hk
  obtain ⟨i0, hi, hz0, hz1, hz2⟩ := info_parts smalls_info
  obtain ⟨j0, hj, hy0, hy1, hy2⟩ := info_parts smalls_infoR
  have bo := (((Blk.new w 23 #[.int .i64 o.a, .int .i64 o.b, .int .i64 o.c, .int .i64 o.d]).alloc (.cells #[.int .i64 m.a, .int .i64 m.b, .int .i64 m.c, .int .i64 m.d] 23)).alloc (.cells #[.int .i64 n.a, .int .i64 n.b, .int .i64 n.c, .int .i64 n.d] 23)).alloc (.cells #[.int .i64 (4 * min (l.length : Int) 67108864)] 3)
  have bm := ((Blk.new (w.alloc (.cells #[.int .i64 o.a, .int .i64 o.b, .int .i64 o.c, .int .i64 o.d] 23)) 23 #[.int .i64 m.a, .int .i64 m.b, .int .i64 m.c, .int .i64 m.d]).alloc (.cells #[.int .i64 n.a, .int .i64 n.b, .int .i64 n.c, .int .i64 n.d] 23)).alloc (.cells #[.int .i64 (4 * min (l.length : Int) 67108864)] 3)
  have bn := (Blk.new ((w.alloc (.cells #[.int .i64 o.a, .int .i64 o.b, .int .i64 o.c, .int .i64 o.d] 23)).alloc (.cells #[.int .i64 m.a, .int .i64 m.b, .int .i64 m.c, .int .i64 m.d] 23)) 23 #[.int .i64 n.a, .int .i64 n.b, .int .i64 n.c, .int .i64 n.d]).alloc (.cells #[.int .i64 (4 * min (l.length : Int) 67108864)] 3)
  simp only [World.size_alloc] at bm bn
  have B0 := ((((Below.refl w.heap.size w).alloc (Nat.le_refl _) (.cells #[.int .i64 o.a, .int .i64 o.b, .int .i64 o.c, .int .i64 o.d] 23)).alloc (by simp) (.cells #[.int .i64 m.a, .int .i64 m.b, .int .i64 m.c, .int .i64 m.d] 23)).alloc (by simp; omega) (.cells #[.int .i64 n.a, .int .i64 n.b, .int .i64 n.c, .int .i64 n.d] 23)).alloc (by simp; omega) (.cells #[.int .i64 (4 * min (l.length : Int) 67108864)] 3)
  go_enter Try.func7, Try.ntmps7
  go_wp2_with fail
  refine (smalls_beyond l.length _ _ _ (by simp)).mono ?_
  rintro e w1 ⟨rfl, rfl⟩
  dsimp only
  by_cases hbig : 262144 < l.length
  · have hd : decide (262144 < l.length) = true := decide_eq_true hbig
    rw [hd]
    clear bo bm bn hd
    go_wp2_with fail
    go_ret
    exact ⟨rfl, B0⟩
  have hd : decide (262144 < l.length) = false := decide_eq_false hbig
  rw [hd]
  clear hd
  obtain ⟨w1, E⟩ : ∃ W, W = (((w.alloc (.cells #[.int .i64 o.a, .int .i64 o.b, .int .i64 o.c, .int .i64 o.d] 23)).alloc (.cells #[.int .i64 m.a, .int .i64 m.b, .int .i64 m.c, .int .i64 m.d] 23)).alloc (.cells #[.int .i64 n.a, .int .i64 n.b, .int .i64 n.c, .int .i64 n.d] 23)).alloc (.cells #[.int .i64 (4 * min (l.length : Int) 67108864)] 3) := ⟨_, rfl⟩
  rw [← E] at bo bm bn B0 ⊢
  clear E
  have HO := Lib.hid bo
  have HM := Lib.hid bm
  have HN := Lib.hid bn
  clear bo bm bn
  have hll : l.length ≤ 262144 := by omega
  have hb1 := B0.size
  clear hbig
  have I0 : Two w1 w1.heap.size 38 4 (.slice none 0 0) 0 (smallCells ((l.map M4.low).take 0)) 60 12 (.slice none 0 0) 0 (rCells 1 ((l.map M4.low).take 0)) := ⟨World.ownsRow_nil _ _ _ _, World.ownsRow_nil _ _ _ _, fun g h => by simp [Value.ownBlock] at h⟩
  go_wp2_with fail
  go_loopw [12, 13, 14] (fun v1 v2 i wr => ∃ j : Nat, i = .int .i64 j ∧ j ≤ l.length ∧ Two wr w1.heap.size 38 4 v1 j (smallCells ((l.map M4.low).take j)) 60 12 v2 j (rCells 1 ((l.map M4.low).take j)) ∧ Below w1.heap.size w1 wr) (fun _ _ i _ => l.length - (intOf i).toNat)
  case atStart => exact ⟨0, rfl, Nat.zero_le _, I0, Below.refl _ _⟩
  case round =>
    obtain ⟨j, rfl, hj', htwo, hb⟩ := hrel
    clear I0
    by_cases hlt : j < l.length
    · obtain ⟨e0, e1, e2, e3⟩ := flat4 (fun m : M4 => Value.int .i64 m.a) (fun m => .int .i64 m.b) (fun m => .int .i64 m.c) (fun m => .int .i64 m.d) l j hlt
      have HE0 := Lib.hid e0
      have HE1 := Lib.hid e1
      have HE2 := Lib.hid e2
      have HE3 := Lib.hid e3
      clear e0 e1 e2 e3
      obtain ⟨ad, rfl, had, c0, c1, c2, c3⟩ := (HL.out.below (belowTo B0 hb)).row4 hlt HE0.out HE1.out HE2.out HE3.out
      have hsz := hb.size
      go_wp2_with fail
      refine (small_Small l[j] _).mono ?_; rintro e w9 ⟨rfl, hb9⟩
      have T9 := (htwo.below hb9).alloc (.cells #[.int .i8 (l[j]).low.a, .int .i8 (l[j]).low.b, .int .i8 (l[j]).low.c, .int .i8 (l[j]).low.d] 38)
      have D9 := belowTo hb hb9
      have D10 := Below.alloc D9 D9.size (.cells #[.int .i8 (l[j]).low.a, .int .i8 (l[j]).low.b, .int .i8 (l[j]).low.c, .int .i8 (l[j]).low.d] 38)
      have hz9 := D9.size
      clear c0 c1 c2 c3 hb9 hb htwo
      go_wp2_with (at_builtin; refine wpList_append_any _ rfl (.tmp 33) (.tmp 39) _ rfl w1.heap.size 38 i0 _ 4 4 Try.underlying71 hi hz0 hz1 hz2 rfl (by omega) _ j _ rfl T9.one _ (some ⟨w9.heap.size, 0, none⟩) 1 1 [.int .i8 (l[j]).low.a, .int .i8 (l[j]).low.b, .int .i8 (l[j]).low.c, .int .i8 (l[j]).low.d] rfl (Reads.new1 w9 _ 4 _ rfl) (by simp [Value.oneCell']) (by unfold maxLen; omega) (by omega) (by simp; omega) ?_; intro v1' w11 ho11 hg11 hat11; have T11 := T9.more ho11 hg11 hat11; have D11 := below_more T9.one D10 (Nat.le_refl _) D10.size hg11; obtain ⟨ad', hq, had', c0, c1, c2, c3⟩ := (HL.out.below (belowTo B0 D11)).row4 hlt HE0.out HE1.out HE2.out HE3.out; obtain rfl := Option.some.inj hq; clear T9 D9 D10 ho11 hg11 hat11 hz9 hq had')
      refine (low_low l[j] _).mono ?_; rintro e w12a ⟨rfl, hb12a⟩
      go_wp2_with fail
      refine (meant_any 1 l[j].low _).mono ?_; rintro e w12 ⟨rfl, hb12⟩
      have hb12 := belowTo hb12a hb12
      have T12 := ((T11.below hb12).alloc (.cells (matC 1 (l[j]).low) 60)).swap
      have D12 := belowTo D11 hb12
      have D13 := Below.alloc D12 D12.size (.cells (matC 1 (l[j]).low) 60)
      have hz12 := D12.size
      clear c0 c1 c2 c3 hb12 D11 T11
      go_wp2_with (at_builtin; refine wpList_append_any _ rfl (.tmp 41) (.tmp 49) _ rfl w1.heap.size 60 j0 _ 12 128 Try.underlying56 hj hy0 hy1 hy2 rfl (by omega) _ j _ rfl T12.one _ (some ⟨w12.heap.size, 0, none⟩) 1 1 (matC 1 (l[j]).low).toList rfl (Reads.new1 w12 _ 12 _ rfl) (by simp [Value.oneCell']) (by unfold maxLen; omega) (by omega) (by simp; omega) ?_; intro v2' w14 ho14 hg14 hat14; have T14 := (T12.more ho14 hg14 hat14).swap; have D14 := below_more T12.one D13 (Nat.le_refl _) D13.size hg14; clear T12 D12 D13 ho14 hg14 hat14 hz12)
      rw [← smalls_snoc l j hlt, ← rCells_snoc_smalls 1 l j hlt] at T14
      go_roundw
      case rel => exact ⟨j + 1, by go_num, hlt, T14, D14⟩
      case measure => simp [intOf]; omega
    · obtain rfl : j = l.length := by omega
      rw [show (l.map M4.low).take l.length = l.map M4.low from List.take_of_length_le (by simp)] at htwo
      obtain ⟨A1, c1, hv1⟩ := own_form (by omega) htwo.one
      obtain ⟨A2, c2, hv2⟩ := own_form (by omega) htwo.two
      subst hv1 hv2
      have HR1 := Lib.hid (Reads.of_own htwo.one)
      have HR2 := Lib.hid (Reads.of_own htwo.two)
      have B1 := belowTo B0 hb
      have bo := HO.out.below hb HO.out.lt
      have bm := HM.out.below hb HM.out.lt
      have bn := HN.out.below hb HN.out.lt
      clear htwo hb HO HM HN B0 HL hi hj hz0 hz1 hz2 hy0 hy1 hy2
      go_wp2_with fail
      have HO := Lib.hid bo
      have HM := Lib.hid bm
      have HN := Lib.hid bn
      clear bo bm bn
      refine wp_region_list [.val (.agg #[.int .i64 m.a, .int .i64 m.b, .int .i64 m.c, .int .i64 m.d]), .val (.agg #[.int .i8 (m).low.a, .int .i8 (m).low.b, .int .i8 (m).low.c, .int .i8 (m).low.d]), .val (.agg #[.int .i64 n.a, .int .i64 n.b, .int .i64 n.c, .int .i64 n.d]), .val (.agg #[.int .i8 (n).low.a, .int .i8 (n).low.b, .int .i8 (n).low.c, .int .i8 (n).low.d]), .val (.agg #[.int .i64 o.a, .int .i64 o.b, .int .i64 o.c, .int .i64 o.d]), .val (.agg #[.int .i8 (o).low.a, .int .i8 (o).low.b, .int .i8 (o).low.c, .int .i8 (o).low.d]), .new 38 4, .new 38 4, .new 38 4, .put 6 1 #[.int .i8 (m).low.a, .int .i8 (m).low.b, .int .i8 (m).low.c, .int .i8 (m).low.d], .put 7 3 #[.int .i8 (n).low.a, .int .i8 (n).low.b, .int .i8 (n).low.c, .int .i8 (n).low.d], .put 8 5 #[.int .i8 (o).low.a, .int .i8 (o).low.b, .int .i8 (o).low.c, .int .i8 (o).low.d]]
        wr.heap.size wr #[] _ mixedOrders (Nat.le_refl _) (Below.refl _ _) rfl (by kernel_rfl) (by kernel_rfl) (by kernel_rfl) (by kernel_rfl) (by kernel_rfl) rfl (by kernel_rfl) (by kernel_rfl) (by kernel_rfl) ?_ ?_ ?_ ?_ ?_
      · simp [ValOk, fill, pairs, isVal, clsOf]
        repeat' apply And.intro
        all_goals
          intro V hV _
          have xo := HO.out.below hV HO.out.lt
          have xm := HM.out.below hV HM.out.lt
          have xn := HN.out.below hV HN.out.lt
          have o0 := xo.cell 0
          have o1 := xo.cell 1
          have o2 := xo.cell 2
          have o3 := xo.cell 3
          have m0 := xm.cell 0
          have m1 := xm.cell 1
          have m2 := xm.cell 2
          have m3 := xm.cell 3
          have n0 := xn.cell 0
          have n1 := xn.cell 1
          have n2 := xn.cell 2
          have n3 := xn.cell 3
          simp at o0 o1 o2 o3 m0 m1 m2 m3 n0 n1 n2 n3
          clear xo xm xn hV
          go_simp
          first | exact Below.refl _ _ | ((with_reducible refine (small_Small m _).mono ?_); rintro e w' ⟨rfl, hb⟩; exact ⟨rfl, hb⟩) | ((with_reducible refine (small_Small n _).mono ?_); rintro e w' ⟨rfl, hb⟩; exact ⟨rfl, hb⟩) | ((with_reducible refine (small_Small o _).mono ?_); rintro e w' ⟨rfl, hb⟩; exact ⟨rfl, hb⟩)
      · refine And.intro ?_ (And.intro ?_ (And.intro (b := True) ?_ trivial)) <;> exact ⟨#[.int .i8 0, .int .i8 0, .int .i8 0, .int .i8 0], rfl, fun ρ w => by kernel_rfl⟩
      · refine And.intro ?_ (And.intro ?_ (And.intro (b := True) ?_ trivial)) <;> exact ⟨_, _, _, rfl, rfl, rfl, rfl, rfl, rfl, by kernel_rfl, by kernel_rfl, by kernel_rfl, by kernel_rfl⟩
      · simp only [OldOk]
      · intro bs V1 hV1 hap _ hput _
        obtain ⟨_, -, ga⟩ := hput 9 _ _ _ rfl
        obtain ⟨_, -, gb⟩ := hput 10 _ _ _ rfl
        obtain ⟨_, -, gc⟩ := hput 11 _ _ _ rfl
        simp [fill, pairs, clsOf, Cls.of]
        generalize bs 6 = b1 at ga ⊢
        generalize bs 7 = b2 at gb ⊢
        generalize bs 8 = b3 at gc ⊢
        clear hap hput
        have HO := Lib.hid (HO.out.below hV1 HO.out.lt)
        have HM := Lib.hid (HM.out.below hV1 HM.out.lt)
        have HN := Lib.hid (HN.out.below hV1 HN.out.lt)
        have HR1 := Lib.hid ((HR1.out.below hV1).more hV1.size)
        have HR2 := Lib.hid ((HR2.out.below hV1).more hV1.size)
        have HA := Lib.hid ga
        have HB := Lib.hid gb
        have HC := Lib.hid gc
        have B2 := belowTo B1 hV1
        clear B1 hV1 ga gb gc
        go_wp2_with fail
        refine wp_region_list [.val (.int .i64 1), .val (.agg #[.int .i64 m.a, .int .i64 m.b, .int .i64 m.c, .int .i64 m.d]), .val (.agg #[.int .i64 (m).low.a, .int .i64 (m).low.b, .int .i64 (m).low.c, .int .i64 (m).low.d]), .val (matR 1 (m).low), .val (.int .i64 1), .val (.agg #[.int .i64 n.a, .int .i64 n.b, .int .i64 n.c, .int .i64 n.d]), .val (.agg #[.int .i64 (n).low.a, .int .i64 (n).low.b, .int .i64 (n).low.c, .int .i64 (n).low.d]), .val (matR 1 (n).low), .val (.int .i64 1), .val (.agg #[.int .i64 o.a, .int .i64 o.b, .int .i64 o.c, .int .i64 o.d]), .val (.agg #[.int .i64 (o).low.a, .int .i64 (o).low.b, .int .i64 (o).low.c, .int .i64 (o).low.d]), .val (matR 1 (o).low), .new 60 12, .new 60 12, .new 60 12, .put 12 3 (matC 1 (m).low), .put 13 7 (matC 1 (n).low), .put 14 11 (matC 1 (o).low)]
          V1.heap.size V1 #[] _ mixedOrders (Nat.le_refl _) (Below.refl _ _) rfl (by kernel_rfl) (by kernel_rfl) (by kernel_rfl) (by kernel_rfl) (by kernel_rfl) rfl (by kernel_rfl) (by kernel_rfl) (by kernel_rfl) ?_ ?_ ?_ ?_ ?_
        · simp [ValOk, fill, pairs, isVal, clsOf]
          repeat' apply And.intro
          all_goals
            intro V hV _
            have xo := HO.out.below hV HO.out.lt
            have xm := HM.out.below hV HM.out.lt
            have xn := HN.out.below hV HN.out.lt
            have o0 := xo.cell 0
            have o1 := xo.cell 1
            have o2 := xo.cell 2
            have o3 := xo.cell 3
            have m0 := xm.cell 0
            have m1 := xm.cell 1
            have m2 := xm.cell 2
            have m3 := xm.cell 3
            have n0 := xn.cell 0
            have n1 := xn.cell 1
            have n2 := xn.cell 2
            have n3 := xn.cell 3
            simp at o0 o1 o2 o3 m0 m1 m2 m3 n0 n1 n2 n3
            clear xo xm xn hV
            go_simp
            first | exact Below.refl _ _ | ((with_reducible refine (low_low m _).mono ?_); rintro e w' ⟨rfl, hb⟩; exact ⟨rfl, hb⟩) | ((with_reducible refine (low_low n _).mono ?_); rintro e w' ⟨rfl, hb⟩; exact ⟨rfl, hb⟩) | ((with_reducible refine (low_low o _).mono ?_); rintro e w' ⟨rfl, hb⟩; exact ⟨rfl, hb⟩) | ((with_reducible refine (meant_any 1 (m).low _).mono ?_); rintro e w' ⟨rfl, hb⟩; exact ⟨rfl, hb⟩) | ((with_reducible refine (meant_any 1 (n).low _).mono ?_); rintro e w' ⟨rfl, hb⟩; exact ⟨rfl, hb⟩) | ((with_reducible refine (meant_any 1 (o).low _).mono ?_); rintro e w' ⟨rfl, hb⟩; exact ⟨rfl, hb⟩)
        · refine And.intro ?_ (And.intro ?_ (And.intro (b := True) ?_ trivial)) <;> exact ⟨matC 0 ⟨0, 0, 0, 0⟩, rfl, fun ρ w => by kernel_rfl⟩
        · refine And.intro ?_ (And.intro ?_ (And.intro (b := True) ?_ trivial)) <;> exact ⟨_, _, _, rfl, rfl, rfl, rfl, rfl, rfl, by kernel_rfl, by kernel_rfl, by kernel_rfl, by kernel_rfl⟩
        · simp only [OldOk]
        · intro bs W hW hap _ hput _
          obtain ⟨_, -, gx⟩ := hput 15 _ _ _ rfl
          obtain ⟨_, -, gy⟩ := hput 16 _ _ _ rfl
          obtain ⟨_, -, gz⟩ := hput 17 _ _ _ rfl
          simp [fill, pairs, clsOf, Cls.of]
          generalize bs 12 = b4 at gx ⊢
          generalize bs 13 = b5 at gy ⊢
          generalize bs 14 = b6 at gz ⊢
          clear hap hput HO HM HN
          have ga := HA.out.below hW HA.out.lt
          have gb := HB.out.below hW HB.out.lt
          have gc := HC.out.below hW HC.out.lt
          have HR1 := Lib.hid ((HR1.out.below hW).more hW.size)
          have HR2 := Lib.hid ((HR2.out.below hW).more hW.size)
          have B3 := belowTo B2 hW
          clear B2 hW HA HB HC
          have HA := Lib.hid ga
          have HB := Lib.hid gb
          have HC := Lib.hid gc
          have HX := Lib.hid gx
          have HY := Lib.hid gy
          have HZ := Lib.hid gz
          clear ga gb gc gx gy gz
          -- the first test: product, determinant, trace, turned
          have C1 := fun V => small_Mul4 (m).low (n).low V
          have C2 := fun V => r_Mul ring1 (m).low (n).low V
          have KX1 := M4.gmul8_ok m.low n.low
          generalize hX1 : M4.gmul smallR (m).low (n).low = X1 at C1 C2 KX1
          have C3 := fun V => smalled_true X1 V KX1
          have C4 := fun V => small_Det4 (m).low V
          have C5 := fun V => r_Det ring1 (m).low V
          have KD1 := i64_of_low (M4.gdet_ok m.low)
          generalize hD1 : M4.gdet smallR (m).low = D1 at C4 C5 KD1
          have C6 := fun V => small_Trace4 (m).low V
          have C7 := fun V => r_Trace ring1 (m).low V
          have KT1 := i64_of_low (M4.gtrace_ok m.low)
          generalize hT1 : M4.gtrace smallR (m).low = T1 at C6 C7 KT1
          have C8 := fun V => small_Turned4 (m).low V
          have C9 := fun V => r_Turned ring1 (m).low V
          have KX2 := M4.gturned_ok m.low_ok
          generalize hX2 : M4.gturned smallR (m).low = X2 at C8 C9 KX2
          have C10 := fun V => smalled_true X2 V KX2
          have fD : ∀ V, (Instr.field 58 (thV 1 D1) 1).run Try.prog V = .ok (.int .i64 D1) V := fun V => by kernel_rfl
          have fT : ∀ V, (Instr.field 58 (thV 1 T1) 1).run Try.prog V = .ok (.int .i64 T1) V := fun V => by kernel_rfl
          clear hX1 hD1 hT1 hX2 KX1 KX2
          have H1 := Lib.hid C1
          have H2 := Lib.hid C2
          have H3 := Lib.hid C3
          have H4 := Lib.hid C4
          have H5 := Lib.hid C5
          have H6 := Lib.hid C6
          have H7 := Lib.hid C7
          have H8 := Lib.hid C8
          have H9 := Lib.hid C9
          have H10 := Lib.hid C10
          clear C1 C2 C3 C4 C5 C6 C7 C8 C9 C10
          go_wp2_with fail
          have la := HA.out.lt
          have lb := HB.out.lt
          have lx := HX.out.lt
          have ly := HY.out.lt
          have a0 := HA.out.cell 0
          have a1 := HA.out.cell 1
          have a2 := HA.out.cell 2
          have a3 := HA.out.cell 3
          have b0 := HB.out.cell 0
          have b1 := HB.out.cell 1
          have b2 := HB.out.cell 2
          have b3 := HB.out.cell 3
          have x0 := HX.out.cell 0
          have x1 := HX.out.cell 1
          have x2 := HX.out.cell 2
          have x3 := HX.out.cell 3
          have x4 := HX.out.cell 4
          have x5 := HX.out.cell 5
          have x6 := HX.out.cell 6
          have x7 := HX.out.cell 7
          have x8 := HX.out.cell 8
          have x9 := HX.out.cell 9
          have x10 := HX.out.cell 10
          have x11 := HX.out.cell 11
          have y0 := HY.out.cell 0
          have y1 := HY.out.cell 1
          have y2 := HY.out.cell 2
          have y3 := HY.out.cell 3
          have y4 := HY.out.cell 4
          have y5 := HY.out.cell 5
          have y6 := HY.out.cell 6
          have y7 := HY.out.cell 7
          have y8 := HY.out.cell 8
          have y9 := HY.out.cell 9
          have y10 := HY.out.cell 10
          have y11 := HY.out.cell 11
          simp at a0 a1 a2 a3 b0 b1 b2 b3 x0 x1 x2 x3 x4 x5 x6 x7 x8 x9 x10 x11 y0 y1 y2 y3 y4 y5 y6 y7 y8 y9 y10 y11
          go_region_held3 (fun w' => Below W.heap.size W w' ∧ ∀ b o, b < W.heap.size → w'.cell? ⟨b, o, none⟩ = W.cell? ⟨b, o, none⟩)
            (first
      | exact ⟨(Below.refl _ _).drew, fun _ _ _ => rfl⟩
      | (obtain ⟨q, _⟩ := ‹Below W.heap.size W _ ∧ _›; have q' := belowTo q hbx; exact ⟨q', fun b o h => q'.cell (p := ⟨b, o, none⟩) h⟩)
      | (obtain ⟨q, _⟩ := ‹Below W.heap.size W _ ∧ _›; refine have q' := q.alloc q.size _; ⟨q', fun b o h => q'.cell (p := ⟨b, o, none⟩) h⟩))
            (first
              | (go_at_call 17; with_reducible refine (H1.out _).mono ?_; rintro e wx ⟨rfl, hbx⟩)
              | (go_at_call 30; with_reducible refine (H2.out _).mono ?_; rintro e wx ⟨rfl, hbx⟩)
              | (go_at_call 39; with_reducible refine (H3.out _).mono ?_; rintro e wx ⟨rfl, hbx⟩)
              | (go_at_call 40; with_reducible refine (H4.out _).mono ?_; rintro e wx ⟨rfl, hbx⟩)
              | (go_at_call 31; with_reducible refine (H5.out _).mono ?_; rintro e wx ⟨rfl, hbx⟩)
              | (go_at_call 41; with_reducible refine (H6.out _).mono ?_; rintro e wx ⟨rfl, hbx⟩)
              | (go_at_call 32; with_reducible refine (H7.out _).mono ?_; rintro e wx ⟨rfl, hbx⟩)
              | (go_at_call 42; with_reducible refine (H8.out _).mono ?_; rintro e wx ⟨rfl, hbx⟩)
              | (go_at_call 33; with_reducible refine (H9.out _).mono ?_; rintro e wx ⟨rfl, hbx⟩)
              | (go_at_call 39; with_reducible refine (H10.out _).mono ?_; rintro e wx ⟨rfl, hbx⟩))
          obtain ⟨q, qc⟩ := ‹Below W.heap.size W _ ∧ _›
          clear H1 H2 H3 H4 H5 H6 H7 H8 H9 H10 fD fT KD1 KT1
          clear b0 b1 b2 b3 y0 y1 y2 y3 y4 y5 y6 y7 y8 y9 y10 y11 lb ly
          -- the second test: power, chain
          have C1 := fun V => small_Power4 (o).low (m).low k HK.out V
          have C2 := fun V => r_Power ring1 (o).low (m).low k HK.out V
          have KX3 := M4.gpow8_ok o.low_ok m.low_ok HK.out
          generalize hX3 : M4.gpow smallR 65 (o).low (m).low k = X3 at C1 C2 KX3
          have C3 := fun V => smalled_true X3 V KX3
          have C4 := fun V (hV : Below W.heap.size W V) => by have h := small_Chain4 o.low A1 c1 (l.map M4.low) (by rw [List.length_map]; exact hl) V (by rw [List.length_map]; exact ((HR1.out.below hV).more hV.size)); rw [List.length_map] at h; exact h
          have C5 := fun V (hV : Below W.heap.size W V) => by have h := r_Chain ring1 o.low A2 c2 (l.map M4.low) (by rw [List.length_map]; exact hl) V (by rw [List.length_map]; exact ((HR2.out.below hV).more hV.size)); rw [List.length_map] at h; exact h
          have KX4 := M4.gchain8_ok o.low_ok (l.map M4.low)
          generalize hX4 : M4.gchain smallR (o).low (l.map M4.low) = X4 at C4 C5 KX4
          have C6 := fun V => smalled_true X4 V KX4
          clear hX3 hX4 KX3 KX4
          have H1 := Lib.hid C1
          have H2 := Lib.hid C2
          have H3 := Lib.hid C3
          have H4 := Lib.hid C4
          have H5 := Lib.hid C5
          have H6 := Lib.hid C6
          clear C1 C2 C3 C4 C5 C6
          have lc := HC.out.lt
          have lz := HZ.out.lt
          have cc0 := HC.out.cell 0
          have cc1 := HC.out.cell 1
          have cc2 := HC.out.cell 2
          have cc3 := HC.out.cell 3
          have z0 := HZ.out.cell 0
          have z1 := HZ.out.cell 1
          have z2 := HZ.out.cell 2
          have z3 := HZ.out.cell 3
          have z4 := HZ.out.cell 4
          have z5 := HZ.out.cell 5
          have z6 := HZ.out.cell 6
          have z7 := HZ.out.cell 7
          have z8 := HZ.out.cell 8
          have z9 := HZ.out.cell 9
          have z10 := HZ.out.cell 10
          have z11 := HZ.out.cell 11
          simp at cc0 cc1 cc2 cc3 z0 z1 z2 z3 z4 z5 z6 z7 z8 z9 z10 z11
          go_wp2_with fail
          go_region_held3 (fun w' => Below W.heap.size W w' ∧ ∀ b o, b < W.heap.size → w'.cell? ⟨b, o, none⟩ = W.cell? ⟨b, o, none⟩)
            (first
      | exact ⟨q.drew, qc⟩
      | (obtain ⟨q, _⟩ := ‹Below W.heap.size W _ ∧ _›; have q' := belowTo q hbx; exact ⟨q', fun b o h => q'.cell (p := ⟨b, o, none⟩) h⟩)
      | (obtain ⟨q, _⟩ := ‹Below W.heap.size W _ ∧ _›; refine have q' := q.alloc q.size _; ⟨q', fun b o h => q'.cell (p := ⟨b, o, none⟩) h⟩))
            (first
              | (go_at_call 18; with_reducible refine (H1.out _).mono ?_; rintro e wx ⟨rfl, hbx⟩)
              | (go_at_call 34; with_reducible refine (H2.out _).mono ?_; rintro e wx ⟨rfl, hbx⟩)
              | (go_at_call 39; with_reducible refine (H3.out _).mono ?_; rintro e wx ⟨rfl, hbx⟩)
              | (go_at_call 43; with_reducible refine (H4.out _ ?_).mono ?_; exact (‹Below W.heap.size W _ ∧ _›).1; rintro e wx ⟨rfl, hbx⟩)
              | (go_at_call 35; with_reducible refine (H5.out _ ?_).mono ?_; exact (‹Below W.heap.size W _ ∧ _›).1; rintro e wx ⟨rfl, hbx⟩)
              | (go_at_call 39; with_reducible refine (H6.out _).mono ?_; rintro e wx ⟨rfl, hbx⟩))
          clear q qc H1 H2 H3 H4 H5 H6
          obtain ⟨q, qc⟩ := ‹Below W.heap.size W _ ∧ _›
          clear cc0 cc1 cc2 cc3 z0 z1 z2 z3 z4 z5 z6 z7 z8 z9 z10 z11 lc lz
          clear a0 a1 a2 a3 x0 x1 x2 x3 x4 x5 x6 x7 x8 x9 x10 x11 la lx qc HC HZ
          have C1 := fun V => small_Like4 (m).low (n).low V
          have C2 := fun V => r_Like ring1 (m).low (n).low V
          generalize matEq (m).low (n).low = be at C1 C2
          have C3 := fun V => small_Like4 (m).low (m).low V
          rw [matEq_self] at C3
          have H1 := Lib.hid C1
          have H2 := Lib.hid C2
          have H3 := Lib.hid C3
          clear C1 C2 C3
          have la := HA.out.lt
          have lb := HB.out.lt
          have lx := HX.out.lt
          have ly := HY.out.lt
          have a0 := HA.out.cell 0
          have a1 := HA.out.cell 1
          have a2 := HA.out.cell 2
          have a3 := HA.out.cell 3
          have b0 := HB.out.cell 0
          have b1 := HB.out.cell 1
          have b2 := HB.out.cell 2
          have b3 := HB.out.cell 3
          have x0 := HX.out.cell 0
          have x1 := HX.out.cell 1
          have x2 := HX.out.cell 2
          have x3 := HX.out.cell 3
          have x4 := HX.out.cell 4
          have x5 := HX.out.cell 5
          have x6 := HX.out.cell 6
          have x7 := HX.out.cell 7
          have x8 := HX.out.cell 8
          have x9 := HX.out.cell 9
          have x10 := HX.out.cell 10
          have x11 := HX.out.cell 11
          have y0 := HY.out.cell 0
          have y1 := HY.out.cell 1
          have y2 := HY.out.cell 2
          have y3 := HY.out.cell 3
          have y4 := HY.out.cell 4
          have y5 := HY.out.cell 5
          have y6 := HY.out.cell 6
          have y7 := HY.out.cell 7
          have y8 := HY.out.cell 8
          have y9 := HY.out.cell 9
          have y10 := HY.out.cell 10
          have y11 := HY.out.cell 11
          simp at a0 a1 a2 a3 b0 b1 b2 b3 x0 x1 x2 x3 x4 x5 x6 x7 x8 x9 x10 x11 y0 y1 y2 y3 y4 y5 y6 y7 y8 y9 y10 y11
          go_wp2_with fail
          go_region_held3 (fun w' => Below W.heap.size W w' ∧ ∀ b o, b < W.heap.size → w'.cell? ⟨b, o, none⟩ = W.cell? ⟨b, o, none⟩)
            (first
      | exact ⟨q.drew, fun b o h => q.cell (p := ⟨b, o, none⟩) h⟩
      | (obtain ⟨q, _⟩ := ‹Below W.heap.size W _ ∧ _›; have q' := belowTo q hbx; exact ⟨q', fun b o h => q'.cell (p := ⟨b, o, none⟩) h⟩)
      | (obtain ⟨q, _⟩ := ‹Below W.heap.size W _ ∧ _›; refine have q' := q.alloc q.size _; ⟨q', fun b o h => q'.cell (p := ⟨b, o, none⟩) h⟩))
            (first
              | (go_at_call 44; with_reducible refine (H1.out _).mono ?_; rintro e wx ⟨rfl, hbx⟩)
              | (go_at_call 37; with_reducible refine (H2.out _).mono ?_; rintro e wx ⟨rfl, hbx⟩)
              | (go_at_call 44; with_reducible refine (H3.out _).mono ?_; rintro e wx ⟨rfl, hbx⟩)
              | (go_at_call 14; with_reducible refine (lives_true _).mono ?_; rintro e wx ⟨rfl, hbx⟩))
          clear q
          obtain ⟨q, _⟩ := ‹Below W.heap.size W _ ∧ _›
          go_wp2_with fail
          go_ret
          exact ⟨rfl, belowTo B3 q⟩
end Go.Proofs.Ytalalbhhlbeghaa
