/- Several texts in one: NormsW. -/
import Derived.Test.YthlehkjcfhnplaaGreatDoorGn35
import Derived.Test.YthlehkjcfhnplaaGreatDoorGnHd
import Derived.Test.YthlehkjcfhnplaaGreatDoorGn44
import Derived.Test.YthlehkjcfhnplaaGreatDoorGn36
import Derived.Test.YthlehkjcfhnplaaGreatDoorGn31
import Derived.Test.YthlehkjcfhnplaaGreatDoorGn27
import Derived.Test.YthlehkjcfhnplaaGreatDoorGn22
import Derived.Test.YthlehkjcfhnplaaGreatDoorGn43
import Derived.Test.YthlehkjcfhnplaaGreatDoorGn14
import Derived.Test.YthlehkjcfhnplaaGreatDoorGn12
import Derived.Test.YthlehkjcfhnplaaGreatDoorGn13
import Derived.Test.YthlehkjcfhnplaaGreatDoorGn07
import Derived.Test.YthlehkjcfhnplaaGreatDoorGn08
import Derived.Test.YthlehkjcfhnplaaGreatDoorGn10
import Derived.Test.YthlehkjcfhnplaaGreatDoorGn03
import Derived.Test.YthlehkjcfhnplaaGreatDoorGn02
import Derived.Test.YthlehkjcfhnplaaGreatDoorGn01
import Derived.Test.YthlehkjcfhnplaaGreatDoorGn09
import Derived.Test.YthlehkjcfhnplaaGreatDoorGn05
import Derived.Test.YthlehkjcfhnplaaGreatDoorGn04
import Derived.Test.YthlehkjcfhnplaaGreatDoorGn06
import Derived.Test.YthlehkjcfhnplaaGreatDoorGn11
import Derived.Test.YthlehkjcfhnplaaGreatDoorGn21
import Derived.Test.YthlehkjcfhnplaaGreatDoorGn20
import Derived.Test.YthlehkjcfhnplaaGreatDoorGn42
import Derived.Test.YthlehkjcfhnplaaGreatDoorGn19
import Derived.Test.YthlehkjcfhnplaaGreatDoorGn18
import Derived.Test.YthlehkjcfhnplaaGreatDoorGn16
import Derived.Test.YthlehkjcfhnplaaGreatDoorGn15
import Derived.Test.YthlehkjcfhnplaaGreatDoorGn17
import Derived.Test.YthlehkjcfhnplaaGreatDoorGn24
import Derived.Test.YthlehkjcfhnplaaGreatDoorGn25
import Derived.Test.YthlehkjcfhnplaaGreatDoorGn26
import Derived.Test.YthlehkjcfhnplaaGreatDoorGn23
import Derived.Test.YthlehkjcfhnplaaGreatDoorGn30
import Derived.Test.YthlehkjcfhnplaaGreatDoorGn29
import Derived.Test.YthlehkjcfhnplaaGreatDoorGn28
import Derived.Test.YthlehkjcfhnplaaGreatDoorGn34
import Derived.Test.YthlehkjcfhnplaaGreatDoorGn33
import Derived.Test.YthlehkjcfhnplaaGreatDoorGn32
set_option maxRecDepth 100000
set_option maxHeartbeats 8000000
/- GaussNorms: the walk. (Written by wip/gauss/gennorms.py.) -/
namespace Go.Proofs.YthlehkjcfhnplaaGreatDoor
open Go.RowKit


theorem gnorms_big {Ax1 Ax2 Ax3 Ax4 : Option Addr} {cx1 cx2 cx3 cx4 : Nat} {Ay1 Ay2 Ay3 Ay4 : Option Addr} {cy1 cy2 cy3 cy4 : Nat} {n1 n2 n3 n4 : Bool} {xs ys us vs : List Nat} {m1 m2 m3 m4 : Bool} {ps qs ks ts : List Nat} (CB : (∀ (V : World) (g : Nat), V.heap.size = g → GaussRaw V (.agg #[.bool n1, .slice Ax1 xs.length cx1, .bool n2, .slice Ax2 ys.length cx2, .bool n3, .slice Ax3 us.length cx3, .bool n4, .slice Ax4 vs.length cx4]) n1 n2 n3 n4 xs ys us vs → GaussRaw V (.agg #[.bool m1, .slice Ay1 ps.length cy1, .bool m2, .slice Ay2 qs.length cy2, .bool m3, .slice Ay3 ks.length cy3, .bool m4, .slice Ay4 ts.length cy4]) m1 m2 m3 m4 ps qs ks ts → Calls Tryz.prog 25 #[.slice (some ⟨g, 0, none⟩) 2 2] (V.alloc (.cells #[.bool n1, .slice Ax1 xs.length cx1, .bool n2, .slice Ax2 ys.length cx2, .bool n3, .slice Ax3 us.length cx3, .bool n4, .slice Ax4 vs.length cx4, .bool m1, .slice Ay1 ps.length cy1, .bool m2, .slice Ay2 qs.length cy2, .bool m3, .slice Ay3 ks.length cy3, .bool m4, .slice Ay4 ts.length cy4] 28)) fun e w' => e = .returned (.bool true) ∧ Below (V.alloc (.cells #[.bool n1, .slice Ax1 xs.length cx1, .bool n2, .slice Ax2 ys.length cx2, .bool n3, .slice Ax3 us.length cx3, .bool n4, .slice Ax4 vs.length cx4, .bool m1, .slice Ay1 ps.length cy1, .bool m2, .slice Ay2 qs.length cy2, .bool m3, .slice Ay3 ks.length cy3, .bool m4, .slice Ay4 ts.length cy4] 28)).heap.size (V.alloc (.cells #[.bool n1, .slice Ax1 xs.length cx1, .bool n2, .slice Ax2 ys.length cx2, .bool n3, .slice Ax3 us.length cx3, .bool n4, .slice Ax4 vs.length cx4, .bool m1, .slice Ay1 ps.length cy1, .bool m2, .slice Ay2 qs.length cy2, .bool m3, .slice Ay3 ks.length cy3, .bool m4, .slice Ay4 ts.length cy4] 28)) w')) (w : World) (g_x : GaussRaw w (.agg #[.bool n1, .slice Ax1 xs.length cx1, .bool n2, .slice Ax2 ys.length cx2, .bool n3, .slice Ax3 us.length cx3, .bool n4, .slice Ax4 vs.length cx4]) n1 n2 n3 n4 xs ys us vs) (g_y : GaussRaw w (.agg #[.bool m1, .slice Ay1 ps.length cy1, .bool m2, .slice Ay2 qs.length cy2, .bool m3, .slice Ay3 ks.length cy3, .bool m4, .slice Ay4 ts.length cy4]) m1 m2 m3 m4 ps qs ks ts) (htab : powTab w) :
    Calls Tryz.prog 7 #[.agg #[.bool n1, .slice Ax1 xs.length cx1, .bool n2, .slice Ax2 ys.length cx2, .bool n3, .slice Ax3 us.length cx3, .bool n4, .slice Ax4 vs.length cx4], .agg #[.bool m1, .slice Ay1 ps.length cy1, .bool m2, .slice Ay2 qs.length cy2, .bool m3, .slice Ay3 ks.length cy3, .bool m4, .slice Ay4 ts.length cy4]] w fun e w' => e = .returned (.bool true) ∧ Below w.heap.size w w' := by
  have HC := Hd CB
  have HT := Hd htab
  have G_x := Hd g_x
  have G_y := Hd g_y
  clear CB htab  g_x g_y
  go_enter Tryz.func7, Tryz.ntmps7
  go_upto_region 1 with fail
  refine boxes2 (P := fun W => Code.wp _ _ _ _ W) fun W p0 p1 b0 => ?_
  have P_x := Hd (Oct.mk p0)
  have P_y := Hd (Oct.mk p1)
  have HB := Hd b0
  clear b0 p0 p1
  obtain ⟨-, a_x0, a_x1, a_x2, a_x3, a_x4, a_x5, a_x6, a_x7⟩ := P_x.out.facts
  obtain ⟨-, a_y0, a_y1, a_y2, a_y3, a_y4, a_y5, a_y6, a_y7⟩ := P_y.out.facts
  go_wp2_with fail
  refine (HC.out W _ rfl (G_x.out.below HB.out) (G_y.out.below HB.out)).mono ?_
  rintro e w1 ⟨rfl, hb⟩
  have hb := ((Below.refl W.heap.size W).alloc (Nat.le_refl _) (.cells #[.bool n1, .slice Ax1 xs.length cx1, .bool n2, .slice Ax2 ys.length cx2, .bool n3, .slice Ax3 us.length cx3, .bool n4, .slice Ax4 vs.length cx4, .bool m1, .slice Ay1 ps.length cy1, .bool m2, .slice Ay2 qs.length cy2, .bool m3, .slice Ay3 ks.length cy3, .bool m4, .slice Ay4 ts.length cy4] 28)).trans (hb.mono (by simp))
  clear a_x0 a_x1 a_x2 a_x3 a_x4 a_x5 a_x6 a_x7 a_y0 a_y1 a_y2 a_y3 a_y4 a_y5 a_y6 a_y7
  have P_x := Hd (P_x.out.below hb)
  have P_y := Hd (P_y.out.below hb)
  have HB := Hd (belowTo HB.out hb)
  clear hb
  go_wp2_with fail
  refine (alive_true w1 (HT.out.below2 HB.out)).mono ?_
  rintro e wx1 ⟨rfl, hb⟩
  have P_x := Hd (P_x.out.below hb)
  have P_y := Hd (P_y.out.below hb)
  have HB := Hd (belowTo HB.out hb)
  clear hb
  go_wp2_with fail
  go_ret
  exact ⟨rfl, HB.out⟩

theorem gnorms_bad0 {Ax1 Ax2 Ax3 Ax4 : Option Addr} {cx1 cx2 cx3 cx4 : Nat} {Ay1 Ay2 Ay3 Ay4 : Option Addr} {cy1 cy2 cy3 cy4 : Nat} {n1 n2 n3 n4 : Bool} {xs ys us vs : List Nat} {m1 m2 m3 m4 : Bool} {ps qs ks ts : List Nat} (CB : (∀ (V : World) (g : Nat), V.heap.size = g → GaussRaw V (.agg #[.bool n1, .slice Ax1 xs.length cx1, .bool n2, .slice Ax2 ys.length cx2, .bool n3, .slice Ax3 us.length cx3, .bool n4, .slice Ax4 vs.length cx4]) n1 n2 n3 n4 xs ys us vs → GaussRaw V (.agg #[.bool m1, .slice Ay1 ps.length cy1, .bool m2, .slice Ay2 qs.length cy2, .bool m3, .slice Ay3 ks.length cy3, .bool m4, .slice Ay4 ts.length cy4]) m1 m2 m3 m4 ps qs ks ts → Calls Tryz.prog 25 #[.slice (some ⟨g, 0, none⟩) 2 2] (V.alloc (.cells #[.bool n1, .slice Ax1 xs.length cx1, .bool n2, .slice Ax2 ys.length cx2, .bool n3, .slice Ax3 us.length cx3, .bool n4, .slice Ax4 vs.length cx4, .bool m1, .slice Ay1 ps.length cy1, .bool m2, .slice Ay2 qs.length cy2, .bool m3, .slice Ay3 ks.length cy3, .bool m4, .slice Ay4 ts.length cy4] 28)) fun e w' => e = .returned (.bool false) ∧ Below (V.alloc (.cells #[.bool n1, .slice Ax1 xs.length cx1, .bool n2, .slice Ax2 ys.length cx2, .bool n3, .slice Ax3 us.length cx3, .bool n4, .slice Ax4 vs.length cx4, .bool m1, .slice Ay1 ps.length cy1, .bool m2, .slice Ay2 qs.length cy2, .bool m3, .slice Ay3 ks.length cy3, .bool m4, .slice Ay4 ts.length cy4] 28)).heap.size (V.alloc (.cells #[.bool n1, .slice Ax1 xs.length cx1, .bool n2, .slice Ax2 ys.length cx2, .bool n3, .slice Ax3 us.length cx3, .bool n4, .slice Ax4 vs.length cx4, .bool m1, .slice Ay1 ps.length cy1, .bool m2, .slice Ay2 qs.length cy2, .bool m3, .slice Ay3 ks.length cy3, .bool m4, .slice Ay4 ts.length cy4] 28)) w')) (K0 : ∀ (V : World) (v : Value), GaussRaw V v n1 n2 n3 n4 xs ys us vs → Calls Tryz.prog 14 #[v] V fun e w' => e = .returned (.int .i64 1) ∧ Below V.heap.size V w') (w : World) (g_x : GaussRaw w (.agg #[.bool n1, .slice Ax1 xs.length cx1, .bool n2, .slice Ax2 ys.length cx2, .bool n3, .slice Ax3 us.length cx3, .bool n4, .slice Ax4 vs.length cx4]) n1 n2 n3 n4 xs ys us vs) (g_y : GaussRaw w (.agg #[.bool m1, .slice Ay1 ps.length cy1, .bool m2, .slice Ay2 qs.length cy2, .bool m3, .slice Ay3 ks.length cy3, .bool m4, .slice Ay4 ts.length cy4]) m1 m2 m3 m4 ps qs ks ts) (htab : powTab w) :
    Calls Tryz.prog 7 #[.agg #[.bool n1, .slice Ax1 xs.length cx1, .bool n2, .slice Ax2 ys.length cx2, .bool n3, .slice Ax3 us.length cx3, .bool n4, .slice Ax4 vs.length cx4], .agg #[.bool m1, .slice Ay1 ps.length cy1, .bool m2, .slice Ay2 qs.length cy2, .bool m3, .slice Ay3 ks.length cy3, .bool m4, .slice Ay4 ts.length cy4]] w fun e w' => e = .returned (.bool true) ∧ Below w.heap.size w w' := by
  have HC := Hd CB
  have HK0 := Hd K0
  have HT := Hd htab
  have G_x := Hd g_x
  have G_y := Hd g_y
  clear CB htab K0 g_x g_y
  go_enter Tryz.func7, Tryz.ntmps7
  go_upto_region 1 with fail
  refine boxes2 (P := fun W => Code.wp _ _ _ _ W) fun W p0 p1 b0 => ?_
  have P_x := Hd (Oct.mk p0)
  have P_y := Hd (Oct.mk p1)
  have HB := Hd b0
  clear b0 p0 p1
  obtain ⟨-, a_x0, a_x1, a_x2, a_x3, a_x4, a_x5, a_x6, a_x7⟩ := P_x.out.facts
  obtain ⟨-, a_y0, a_y1, a_y2, a_y3, a_y4, a_y5, a_y6, a_y7⟩ := P_y.out.facts
  go_wp2_with fail
  refine (HC.out W _ rfl (G_x.out.below HB.out) (G_y.out.below HB.out)).mono ?_
  rintro e w1 ⟨rfl, hb⟩
  have hb := ((Below.refl W.heap.size W).alloc (Nat.le_refl _) (.cells #[.bool n1, .slice Ax1 xs.length cx1, .bool n2, .slice Ax2 ys.length cx2, .bool n3, .slice Ax3 us.length cx3, .bool n4, .slice Ax4 vs.length cx4, .bool m1, .slice Ay1 ps.length cy1, .bool m2, .slice Ay2 qs.length cy2, .bool m3, .slice Ay3 ks.length cy3, .bool m4, .slice Ay4 ts.length cy4] 28)).trans (hb.mono (by simp))
  clear a_x0 a_x1 a_x2 a_x3 a_x4 a_x5 a_x6 a_x7 a_y0 a_y1 a_y2 a_y3 a_y4 a_y5 a_y6 a_y7
  have P_x := Hd (P_x.out.below hb)
  have P_y := Hd (P_y.out.below hb)
  have HB := Hd (belowTo HB.out hb)
  clear hb
  obtain ⟨-, a_x0, a_x1, a_x2, a_x3, a_x4, a_x5, a_x6, a_x7⟩ := P_x.out.facts
  go_wp2_with fail
  refine (HK0.out w1 _ (G_x.out.below HB.out)).mono ?_
  rintro e wx1 ⟨rfl, hb⟩
  clear a_x0 a_x1 a_x2 a_x3 a_x4 a_x5 a_x6 a_x7
  have P_x := Hd (P_x.out.below hb)
  have P_y := Hd (P_y.out.below hb)
  have HB := Hd (belowTo HB.out hb)
  clear hb
  go_wp2_with fail
  refine (alive_true wx1 (HT.out.below2 HB.out)).mono ?_
  rintro e wx2 ⟨rfl, hb⟩
  have P_x := Hd (P_x.out.below hb)
  have P_y := Hd (P_y.out.below hb)
  have HB := Hd (belowTo HB.out hb)
  clear hb
  go_wp2_with fail
  go_ret
  exact ⟨rfl, HB.out⟩

theorem gnorms_bad1 {Ax1 Ax2 Ax3 Ax4 : Option Addr} {cx1 cx2 cx3 cx4 : Nat} {Ay1 Ay2 Ay3 Ay4 : Option Addr} {cy1 cy2 cy3 cy4 : Nat} {n1 n2 n3 n4 : Bool} {xs ys us vs : List Nat} {m1 m2 m3 m4 : Bool} {ps qs ks ts : List Nat} (CB : (∀ (V : World) (g : Nat), V.heap.size = g → GaussRaw V (.agg #[.bool n1, .slice Ax1 xs.length cx1, .bool n2, .slice Ax2 ys.length cx2, .bool n3, .slice Ax3 us.length cx3, .bool n4, .slice Ax4 vs.length cx4]) n1 n2 n3 n4 xs ys us vs → GaussRaw V (.agg #[.bool m1, .slice Ay1 ps.length cy1, .bool m2, .slice Ay2 qs.length cy2, .bool m3, .slice Ay3 ks.length cy3, .bool m4, .slice Ay4 ts.length cy4]) m1 m2 m3 m4 ps qs ks ts → Calls Tryz.prog 25 #[.slice (some ⟨g, 0, none⟩) 2 2] (V.alloc (.cells #[.bool n1, .slice Ax1 xs.length cx1, .bool n2, .slice Ax2 ys.length cx2, .bool n3, .slice Ax3 us.length cx3, .bool n4, .slice Ax4 vs.length cx4, .bool m1, .slice Ay1 ps.length cy1, .bool m2, .slice Ay2 qs.length cy2, .bool m3, .slice Ay3 ks.length cy3, .bool m4, .slice Ay4 ts.length cy4] 28)) fun e w' => e = .returned (.bool false) ∧ Below (V.alloc (.cells #[.bool n1, .slice Ax1 xs.length cx1, .bool n2, .slice Ax2 ys.length cx2, .bool n3, .slice Ax3 us.length cx3, .bool n4, .slice Ax4 vs.length cx4, .bool m1, .slice Ay1 ps.length cy1, .bool m2, .slice Ay2 qs.length cy2, .bool m3, .slice Ay3 ks.length cy3, .bool m4, .slice Ay4 ts.length cy4] 28)).heap.size (V.alloc (.cells #[.bool n1, .slice Ax1 xs.length cx1, .bool n2, .slice Ax2 ys.length cx2, .bool n3, .slice Ax3 us.length cx3, .bool n4, .slice Ax4 vs.length cx4, .bool m1, .slice Ay1 ps.length cy1, .bool m2, .slice Ay2 qs.length cy2, .bool m3, .slice Ay3 ks.length cy3, .bool m4, .slice Ay4 ts.length cy4] 28)) w')) (K0 : ∀ (V : World) (v : Value), GaussRaw V v n1 n2 n3 n4 xs ys us vs → Calls Tryz.prog 14 #[v] V fun e w' => e = .returned (.int .i64 0) ∧ Below V.heap.size V w') (K1 : ∀ (V : World) (v : Value), GaussRaw V v m1 m2 m3 m4 ps qs ks ts → Calls Tryz.prog 14 #[v] V fun e w' => e = .returned (.int .i64 1) ∧ Below V.heap.size V w') (w : World) (g_x : GaussRaw w (.agg #[.bool n1, .slice Ax1 xs.length cx1, .bool n2, .slice Ax2 ys.length cx2, .bool n3, .slice Ax3 us.length cx3, .bool n4, .slice Ax4 vs.length cx4]) n1 n2 n3 n4 xs ys us vs) (g_y : GaussRaw w (.agg #[.bool m1, .slice Ay1 ps.length cy1, .bool m2, .slice Ay2 qs.length cy2, .bool m3, .slice Ay3 ks.length cy3, .bool m4, .slice Ay4 ts.length cy4]) m1 m2 m3 m4 ps qs ks ts) (htab : powTab w) :
    Calls Tryz.prog 7 #[.agg #[.bool n1, .slice Ax1 xs.length cx1, .bool n2, .slice Ax2 ys.length cx2, .bool n3, .slice Ax3 us.length cx3, .bool n4, .slice Ax4 vs.length cx4], .agg #[.bool m1, .slice Ay1 ps.length cy1, .bool m2, .slice Ay2 qs.length cy2, .bool m3, .slice Ay3 ks.length cy3, .bool m4, .slice Ay4 ts.length cy4]] w fun e w' => e = .returned (.bool true) ∧ Below w.heap.size w w' := by
  have HC := Hd CB
  have HK0 := Hd K0
  have HK1 := Hd K1
  have HT := Hd htab
  have G_x := Hd g_x
  have G_y := Hd g_y
  clear CB htab K0 K1 g_x g_y
  go_enter Tryz.func7, Tryz.ntmps7
  go_upto_region 1 with fail
  refine boxes2 (P := fun W => Code.wp _ _ _ _ W) fun W p0 p1 b0 => ?_
  have P_x := Hd (Oct.mk p0)
  have P_y := Hd (Oct.mk p1)
  have HB := Hd b0
  clear b0 p0 p1
  obtain ⟨-, a_x0, a_x1, a_x2, a_x3, a_x4, a_x5, a_x6, a_x7⟩ := P_x.out.facts
  obtain ⟨-, a_y0, a_y1, a_y2, a_y3, a_y4, a_y5, a_y6, a_y7⟩ := P_y.out.facts
  go_wp2_with fail
  refine (HC.out W _ rfl (G_x.out.below HB.out) (G_y.out.below HB.out)).mono ?_
  rintro e w1 ⟨rfl, hb⟩
  have hb := ((Below.refl W.heap.size W).alloc (Nat.le_refl _) (.cells #[.bool n1, .slice Ax1 xs.length cx1, .bool n2, .slice Ax2 ys.length cx2, .bool n3, .slice Ax3 us.length cx3, .bool n4, .slice Ax4 vs.length cx4, .bool m1, .slice Ay1 ps.length cy1, .bool m2, .slice Ay2 qs.length cy2, .bool m3, .slice Ay3 ks.length cy3, .bool m4, .slice Ay4 ts.length cy4] 28)).trans (hb.mono (by simp))
  clear a_x0 a_x1 a_x2 a_x3 a_x4 a_x5 a_x6 a_x7 a_y0 a_y1 a_y2 a_y3 a_y4 a_y5 a_y6 a_y7
  have P_x := Hd (P_x.out.below hb)
  have P_y := Hd (P_y.out.below hb)
  have HB := Hd (belowTo HB.out hb)
  clear hb
  obtain ⟨-, a_x0, a_x1, a_x2, a_x3, a_x4, a_x5, a_x6, a_x7⟩ := P_x.out.facts
  go_wp2_with fail
  refine (HK0.out w1 _ (G_x.out.below HB.out)).mono ?_
  rintro e wx1 ⟨rfl, hb⟩
  clear a_x0 a_x1 a_x2 a_x3 a_x4 a_x5 a_x6 a_x7
  have P_x := Hd (P_x.out.below hb)
  have P_y := Hd (P_y.out.below hb)
  have HB := Hd (belowTo HB.out hb)
  clear hb
  obtain ⟨-, a_y0, a_y1, a_y2, a_y3, a_y4, a_y5, a_y6, a_y7⟩ := P_y.out.facts
  go_wp2_with fail
  refine (HK1.out wx1 _ (G_y.out.below HB.out)).mono ?_
  rintro e wx2 ⟨rfl, hb⟩
  clear a_y0 a_y1 a_y2 a_y3 a_y4 a_y5 a_y6 a_y7
  have P_x := Hd (P_x.out.below hb)
  have P_y := Hd (P_y.out.below hb)
  have HB := Hd (belowTo HB.out hb)
  clear hb
  go_wp2_with fail
  refine (alive_true wx2 (HT.out.below2 HB.out)).mono ?_
  rintro e wx3 ⟨rfl, hb⟩
  have P_x := Hd (P_x.out.below hb)
  have P_y := Hd (P_y.out.below hb)
  have HB := Hd (belowTo HB.out hb)
  clear hb
  go_wp2_with fail
  go_ret
  exact ⟨rfl, HB.out⟩

theorem gnorms_good {Ax1 Ax2 Ax3 Ax4 : Option Addr} {cx1 cx2 cx3 cx4 : Nat} {Ay1 Ay2 Ay3 Ay4 : Option Addr} {cy1 cy2 cy3 cy4 : Nat} {n d m f p q r s t1 t2 t3 t4 nn nd an ad bn bd j1 z0 o1 sg : Int} (CB : (∀ (V : World) (g : Nat), V.heap.size = g → GaussAt V (.agg #[.bool (decide (n < 0)), .slice Ax1 (natL n.natAbs).length cx1, .bool (decide (d < 0)), .slice Ax2 (natL d.natAbs).length cx2, .bool (decide (m < 0)), .slice Ax3 (natL m.natAbs).length cx3, .bool (decide (f < 0)), .slice Ax4 (natL f.natAbs).length cx4]) n d m f → GaussAt V (.agg #[.bool (decide (p < 0)), .slice Ay1 (natL p.natAbs).length cy1, .bool (decide (q < 0)), .slice Ay2 (natL q.natAbs).length cy2, .bool (decide (r < 0)), .slice Ay3 (natL r.natAbs).length cy3, .bool (decide (s < 0)), .slice Ay4 (natL s.natAbs).length cy4]) p q r s → Calls Tryz.prog 25 #[.slice (some ⟨g, 0, none⟩) 2 2] (V.alloc (.cells #[.bool (decide (n < 0)), .slice Ax1 (natL n.natAbs).length cx1, .bool (decide (d < 0)), .slice Ax2 (natL d.natAbs).length cx2, .bool (decide (m < 0)), .slice Ax3 (natL m.natAbs).length cx3, .bool (decide (f < 0)), .slice Ax4 (natL f.natAbs).length cx4, .bool (decide (p < 0)), .slice Ay1 (natL p.natAbs).length cy1, .bool (decide (q < 0)), .slice Ay2 (natL q.natAbs).length cy2, .bool (decide (r < 0)), .slice Ay3 (natL r.natAbs).length cy3, .bool (decide (s < 0)), .slice Ay4 (natL s.natAbs).length cy4] 28)) fun e w' => e = .returned (.bool false) ∧ Below (V.alloc (.cells #[.bool (decide (n < 0)), .slice Ax1 (natL n.natAbs).length cx1, .bool (decide (d < 0)), .slice Ax2 (natL d.natAbs).length cx2, .bool (decide (m < 0)), .slice Ax3 (natL m.natAbs).length cx3, .bool (decide (f < 0)), .slice Ax4 (natL f.natAbs).length cx4, .bool (decide (p < 0)), .slice Ay1 (natL p.natAbs).length cy1, .bool (decide (q < 0)), .slice Ay2 (natL q.natAbs).length cy2, .bool (decide (r < 0)), .slice Ay3 (natL r.natAbs).length cy3, .bool (decide (s < 0)), .slice Ay4 (natL s.natAbs).length cy4] 28)).heap.size (V.alloc (.cells #[.bool (decide (n < 0)), .slice Ax1 (natL n.natAbs).length cx1, .bool (decide (d < 0)), .slice Ax2 (natL d.natAbs).length cx2, .bool (decide (m < 0)), .slice Ax3 (natL m.natAbs).length cx3, .bool (decide (f < 0)), .slice Ax4 (natL f.natAbs).length cx4, .bool (decide (p < 0)), .slice Ay1 (natL p.natAbs).length cy1, .bool (decide (q < 0)), .slice Ay2 (natL q.natAbs).length cy2, .bool (decide (r < 0)), .slice Ay3 (natL r.natAbs).length cy3, .bool (decide (s < 0)), .slice Ay4 (natL s.natAbs).length cy4] 28)) w')) (CK0 : ∀ (V : World) (v : Value), GaussAt V v n d m f → Calls Tryz.prog 14 #[v] V fun e w' => e = .returned (.int .i64 0) ∧ Below V.heap.size V w') (CK1 : ∀ (V : World) (v : Value), GaussAt V v p q r s → Calls Tryz.prog 14 #[v] V fun e w' => e = .returned (.int .i64 0) ∧ Below V.heap.size V w') (C1 : OpS 27 n d m f p q r s t1 t2 t3 t4) (C2 : (∀ (V : World) (v : Value), GaussAt V v t1 t2 t3 t4 → Calls Tryz.prog 33 #[v] V (RetFracOwn2 V.heap.size V nn nd 0))) (C3 : (∀ (V : World) (v : Value), GaussAt V v n d m f → Calls Tryz.prog 33 #[v] V (RetFracOwn2 V.heap.size V an ad 0))) (C4 : (∀ (V : World) (v : Value), GaussAt V v p q r s → Calls Tryz.prog 33 #[v] V (RetFracOwn2 V.heap.size V bn bd 0))) (C5 : ∀ (V : World) (v1 v2 : Value), FracAt V v1 an ad → FracAt V v2 bn bd → Calls Tryz.prog 41 #[v1, v2] V (RetFracOwn2 V.heap.size V nn nd 0)) (C6 : ∀ (V : World) (v : Value), GaussAt V v n d m f → Calls Tryz.prog 32 #[v] V (RetGaussOwn2 V.heap.size V n d j1 f 0)) (C7 : OpS 27 n d m f n d j1 f an ad z0 o1) (C8 : SgnF 42 z0 o1 0) (C9 : SgnF 42 an ad sg) (hsg : 0 ≤ sg) (w : World) (g_x : GaussAt w (.agg #[.bool (decide (n < 0)), .slice Ax1 (natL n.natAbs).length cx1, .bool (decide (d < 0)), .slice Ax2 (natL d.natAbs).length cx2, .bool (decide (m < 0)), .slice Ax3 (natL m.natAbs).length cx3, .bool (decide (f < 0)), .slice Ax4 (natL f.natAbs).length cx4]) n d m f) (g_y : GaussAt w (.agg #[.bool (decide (p < 0)), .slice Ay1 (natL p.natAbs).length cy1, .bool (decide (q < 0)), .slice Ay2 (natL q.natAbs).length cy2, .bool (decide (r < 0)), .slice Ay3 (natL r.natAbs).length cy3, .bool (decide (s < 0)), .slice Ay4 (natL s.natAbs).length cy4]) p q r s) (htab : powTab w) :
    Calls Tryz.prog 7 #[.agg #[.bool (decide (n < 0)), .slice Ax1 (natL n.natAbs).length cx1, .bool (decide (d < 0)), .slice Ax2 (natL d.natAbs).length cx2, .bool (decide (m < 0)), .slice Ax3 (natL m.natAbs).length cx3, .bool (decide (f < 0)), .slice Ax4 (natL f.natAbs).length cx4], .agg #[.bool (decide (p < 0)), .slice Ay1 (natL p.natAbs).length cy1, .bool (decide (q < 0)), .slice Ay2 (natL q.natAbs).length cy2, .bool (decide (r < 0)), .slice Ay3 (natL r.natAbs).length cy3, .bool (decide (s < 0)), .slice Ay4 (natL s.natAbs).length cy4]] w fun e w' => e = .returned (.bool true) ∧ Below w.heap.size w w' := by
  have HC := Hd CB
  have HK0 := Hd CK0
  have HK1 := Hd CK1
  have HC1 := Hd C1
  have HC2 := Hd C2
  have HC3 := Hd C3
  have HC4 := Hd C4
  have HC5 := Hd C5
  have HC6 := Hd C6
  have HC7 := Hd C7
  have HC8 := Hd C8
  have HC9 := Hd C9
  have HT := Hd htab
  clear CB htab CK0 CK1 C1 C2 C3 C4 C5 C6 C7 C8 C9
  go_enter Tryz.func7, Tryz.ntmps7
  go_upto_region 1 with fail
  refine boxes2 (P := fun W => Code.wp _ _ _ _ W) fun W p0 p1 b0 => ?_
  have F := Hd (((Kp.base b0).add (GV.mk (Oct.mk p1) (g_y.below b0)) (fun _ _ => GV.below)).add (GV.mk (Oct.mk p0) (g_x.below b0)) (fun _ _ => GV.below))
  clear b0 p0 g_x p1 g_y
  obtain ⟨V_x, V_y, -⟩ := F.out.h
  obtain ⟨l_x, a_x, b_x, c_x, d_x, e_x, f_x, g_x, h_x⟩ := V_x.oct.facts
  obtain ⟨l_y, a_y, b_y, c_y, d_y, e_y, f_y, g_y, h_y⟩ := V_y.oct.facts
  go_wp2_with fail
  refine (HC.out W _ rfl V_x.at_ V_y.at_).mono ?_
  rintro e w1 ⟨rfl, hb⟩
  have F := Hd (F.out.below (((Below.refl W.heap.size W).alloc (Nat.le_refl _) (.cells #[.bool (decide (n < 0)), .slice Ax1 (natL n.natAbs).length cx1, .bool (decide (d < 0)), .slice Ax2 (natL d.natAbs).length cx2, .bool (decide (m < 0)), .slice Ax3 (natL m.natAbs).length cx3, .bool (decide (f < 0)), .slice Ax4 (natL f.natAbs).length cx4, .bool (decide (p < 0)), .slice Ay1 (natL p.natAbs).length cy1, .bool (decide (q < 0)), .slice Ay2 (natL q.natAbs).length cy2, .bool (decide (r < 0)), .slice Ay3 (natL r.natAbs).length cy3, .bool (decide (s < 0)), .slice Ay4 (natL s.natAbs).length cy4] 28)).trans (hb.mono (by simp))))
  clear l_x a_x b_x c_x d_x e_x f_x g_x h_x l_y a_y b_y c_y d_y e_y f_y g_y h_y V_x V_y
  clear hb
  obtain ⟨V_x, -⟩ := F.out.h
  obtain ⟨l_x, a_x, b_x, c_x, d_x, e_x, f_x, g_x, h_x⟩ := V_x.oct.facts
  go_wp2_with fail
  refine (HK0.out w1 _ V_x.at_).mono ?_
  rintro e wx1 ⟨rfl, hb⟩
  have F := Hd (F.out.below hb)
  clear l_x a_x b_x c_x d_x e_x f_x g_x h_x V_x
  clear hb
  obtain ⟨-, V_y, -⟩ := F.out.h
  obtain ⟨l_y, a_y, b_y, c_y, d_y, e_y, f_y, g_y, h_y⟩ := V_y.oct.facts
  go_wp2_with fail
  refine (HK1.out wx1 _ V_y.at_).mono ?_
  rintro e wx2 ⟨rfl, hb⟩
  have F := Hd (F.out.below hb)
  clear l_y a_y b_y c_y d_y e_y f_y g_y h_y V_y
  clear hb
  have ha := (Below.refl wx2.heap.size wx2).alloc (Nat.le_refl _) (.cells #[.bool true] 4)
  have F := Hd ((F.out.below ha).add (Cell1.mk (Blk.new wx2 4 #[.bool true])) (fun _ _ => Cell1.below))
  clear ha
  go_upto_region 4 with fail
  obtain ⟨wo, E⟩ : ∃ W, W = wx2.alloc (.cells #[.bool true] 4) := ⟨_, rfl⟩
  obtain ⟨bo, hq⟩ : ∃ q, q = wx2.heap.size := ⟨_, rfl⟩
  rw [← E, ← hq] at F ⊢
  clear E hq
  obtain ⟨CK, V_x, V_y, -⟩ := F.out.h
  obtain ⟨l_x, a_x, b_x, c_x, d_x, e_x, f_x, g_x, h_x⟩ := V_x.oct.facts
  obtain ⟨l_y, a_y, b_y, c_y, d_y, e_y, f_y, g_y, h_y⟩ := V_y.oct.facts
  go_wp2_with fail
  refine (HC1.out wo _ _ _ V_x.at_ V_y.at_ CK).mono ?_
  rintro e wx3 ⟨v1, rfl, hI, hb⟩
  have F := Hd (F.out.below hb)
  clear l_x a_x b_x c_x d_x e_x f_x g_x h_x l_y a_y b_y c_y d_y e_y f_y g_y h_y CK V_x V_y
  have GT := Hd hI.in_.at_
  clear hI
  clear hb
  go_wp2_with fail
  refine (HC2.out wx3 _ GT.out).mono ?_
  rintro e wx4 ⟨v, rfl, hI, hb⟩
  obtain ⟨A4a, c4a, A4b, c4b, rfl, -⟩ := hI.form
  have hn := FV.new (hI.at_).raws.1 (hI.at_).raws.2
  have ha := (Below.refl wx4.heap.size wx4).alloc (Nat.le_refl _) (.cells #[.bool (decide (nn < 0)), .slice A4a (natL nn.natAbs).length c4a, .bool (decide (nd < 0)), .slice A4b (natL nd.natAbs).length c4b] 26)
  have F := Hd (((F.out.below hb).below ha).add hn (fun _ _ => FV.below))
  clear hI hb hn ha
  go_upto_region 5 with fail
  obtain ⟨wy4, E⟩ : ∃ W, W = wx4.alloc (.cells #[.bool (decide (nn < 0)), .slice A4a (natL nn.natAbs).length c4a, .bool (decide (nd < 0)), .slice A4b (natL nd.natAbs).length c4b] 26) := ⟨_, rfl⟩
  obtain ⟨q4, hq⟩ : ∃ q, q = wx4.heap.size := ⟨_, rfl⟩
  rw [← E, ← hq] at F ⊢
  clear E hq
  clear GT
  obtain ⟨-, -, V_x, -⟩ := F.out.h
  obtain ⟨l_x, a_x, b_x, c_x, d_x, e_x, f_x, g_x, h_x⟩ := V_x.oct.facts
  go_wp2_with fail
  refine (HC3.out wy4 _ V_x.at_).mono ?_
  rintro e wx5 ⟨v, rfl, hI, hb⟩
  obtain ⟨A5a, c5a, A5b, c5b, rfl, -⟩ := hI.form
  have hn := FV.new (hI.at_).raws.1 (hI.at_).raws.2
  have ha := (Below.refl wx5.heap.size wx5).alloc (Nat.le_refl _) (.cells #[.bool (decide (an < 0)), .slice A5a (natL an.natAbs).length c5a, .bool (decide (ad < 0)), .slice A5b (natL ad.natAbs).length c5b] 26)
  have F := Hd (((F.out.below hb).below ha).add hn (fun _ _ => FV.below))
  clear l_x a_x b_x c_x d_x e_x f_x g_x h_x V_x
  clear hI hb hn ha
  go_upto_region 6 with fail
  obtain ⟨wy5, E⟩ : ∃ W, W = wx5.alloc (.cells #[.bool (decide (an < 0)), .slice A5a (natL an.natAbs).length c5a, .bool (decide (ad < 0)), .slice A5b (natL ad.natAbs).length c5b] 26) := ⟨_, rfl⟩
  obtain ⟨q5, hq⟩ : ∃ q, q = wx5.heap.size := ⟨_, rfl⟩
  rw [← E, ← hq] at F ⊢
  clear E hq
  obtain ⟨-, -, -, -, V_y, -⟩ := F.out.h
  obtain ⟨l_y, a_y, b_y, c_y, d_y, e_y, f_y, g_y, h_y⟩ := V_y.oct.facts
  go_wp2_with fail
  refine (HC4.out wy5 _ V_y.at_).mono ?_
  rintro e wx6 ⟨v, rfl, hI, hb⟩
  obtain ⟨A6a, c6a, A6b, c6b, rfl, -⟩ := hI.form
  have hn := FV.new (hI.at_).raws.1 (hI.at_).raws.2
  have ha := (Below.refl wx6.heap.size wx6).alloc (Nat.le_refl _) (.cells #[.bool (decide (bn < 0)), .slice A6a (natL bn.natAbs).length c6a, .bool (decide (bd < 0)), .slice A6b (natL bd.natAbs).length c6b] 26)
  have F := Hd (((F.out.below hb).below ha).add hn (fun _ _ => FV.below))
  clear l_y a_y b_y c_y d_y e_y f_y g_y h_y V_y
  clear hI hb hn ha
  go_upto_region 7 with fail
  obtain ⟨wy6, E⟩ : ∃ W, W = wx6.alloc (.cells #[.bool (decide (bn < 0)), .slice A6a (natL bn.natAbs).length c6a, .bool (decide (bd < 0)), .slice A6b (natL bd.natAbs).length c6b] 26) := ⟨_, rfl⟩
  obtain ⟨q6, hq⟩ : ∃ q, q = wx6.heap.size := ⟨_, rfl⟩
  rw [← E, ← hq] at F ⊢
  clear E hq
  obtain ⟨V_bn, V_an, -⟩ := F.out.h
  obtain ⟨l_an, a_an, b_an, c_an, d_an, -, -, -, -⟩ := V_an.quad.facts
  obtain ⟨l_bn, a_bn, b_bn, c_bn, d_bn, -, -, -, -⟩ := V_bn.quad.facts
  go_wp2_with fail
  refine (HC5.out wy6 _ _ V_an.at_ V_bn.at_).mono ?_
  rintro e wx7 ⟨v, rfl, hI, hb⟩
  obtain ⟨A7a, c7a, A7b, c7b, rfl, -⟩ := hI.form
  have hn := FV.new (hI.at_).raws.1 (hI.at_).raws.2
  have ha := (Below.refl wx7.heap.size wx7).alloc (Nat.le_refl _) (.cells #[.bool (decide (nn < 0)), .slice A7a (natL nn.natAbs).length c7a, .bool (decide (nd < 0)), .slice A7b (natL nd.natAbs).length c7b] 26)
  have F := Hd (((F.out.below hb).below ha).add hn (fun _ _ => FV.below))
  clear l_an a_an b_an c_an d_an l_bn a_bn b_bn c_bn d_bn V_an V_bn
  clear hI hb hn ha
  go_upto_region 8 with fail
  obtain ⟨wy7, E⟩ : ∃ W, W = wx7.alloc (.cells #[.bool (decide (nn < 0)), .slice A7a (natL nn.natAbs).length c7a, .bool (decide (nd < 0)), .slice A7b (natL nd.natAbs).length c7b] 26) := ⟨_, rfl⟩
  obtain ⟨q7, hq⟩ : ∃ q, q = wx7.heap.size := ⟨_, rfl⟩
  rw [← E, ← hq] at F ⊢
  clear E hq
  obtain ⟨-, -, -, -, -, V_x, -⟩ := F.out.h
  obtain ⟨l_x, a_x, b_x, c_x, d_x, e_x, f_x, g_x, h_x⟩ := V_x.oct.facts
  go_wp2_with fail
  refine (HC6.out wy7 _ V_x.at_).mono ?_
  rintro e wx8 ⟨v, rfl, hI, hb⟩
  obtain ⟨A8a, c8a, A8b, c8b, A8c, c8c, A8d, c8d, rfl, -⟩ := hI.form
  have hn := GV.new 28 (hI.at_)
  have ha := (Below.refl wx8.heap.size wx8).alloc (Nat.le_refl _) (.cells #[.bool (decide (n < 0)), .slice A8a (natL n.natAbs).length c8a, .bool (decide (d < 0)), .slice A8b (natL d.natAbs).length c8b, .bool (decide (j1 < 0)), .slice A8c (natL j1.natAbs).length c8c, .bool (decide (f < 0)), .slice A8d (natL f.natAbs).length c8d] 28)
  have F := Hd (((F.out.below hb).below ha).add hn (fun _ _ => GV.below))
  clear l_x a_x b_x c_x d_x e_x f_x g_x h_x V_x
  clear hI hb hn ha
  go_upto_region 9 with fail
  obtain ⟨wy8, E⟩ : ∃ W, W = wx8.alloc (.cells #[.bool (decide (n < 0)), .slice A8a (natL n.natAbs).length c8a, .bool (decide (d < 0)), .slice A8b (natL d.natAbs).length c8b, .bool (decide (j1 < 0)), .slice A8c (natL j1.natAbs).length c8c, .bool (decide (f < 0)), .slice A8d (natL f.natAbs).length c8d] 28) := ⟨_, rfl⟩
  obtain ⟨q8, hq⟩ : ∃ q, q = wx8.heap.size := ⟨_, rfl⟩
  rw [← E, ← hq] at F ⊢
  clear E hq
  obtain ⟨V_cj, -, -, -, -, CK, V_x, -⟩ := F.out.h
  obtain ⟨l_x, a_x, b_x, c_x, d_x, e_x, f_x, g_x, h_x⟩ := V_x.oct.facts
  obtain ⟨l_cj, a_cj, b_cj, c_cj, d_cj, e_cj, f_cj, g_cj, h_cj⟩ := V_cj.oct.facts
  go_wp2_with fail
  refine (HC7.out wy8 _ _ _ V_x.at_ V_cj.at_ CK).mono ?_
  rintro e wx9 ⟨v, rfl, hI, hb⟩
  obtain ⟨A9a, c9a, A9b, c9b, A9c, c9c, A9d, c9d, rfl, -⟩ := hI.form
  have hn := GV.new 28 (hI.at_)
  have ha := (Below.refl wx9.heap.size wx9).alloc (Nat.le_refl _) (.cells #[.bool (decide (an < 0)), .slice A9a (natL an.natAbs).length c9a, .bool (decide (ad < 0)), .slice A9b (natL ad.natAbs).length c9b, .bool (decide (z0 < 0)), .slice A9c (natL z0.natAbs).length c9c, .bool (decide (o1 < 0)), .slice A9d (natL o1.natAbs).length c9d] 28)
  have F := Hd (((F.out.below hb).below ha).add hn (fun _ _ => GV.below))
  clear l_x a_x b_x c_x d_x e_x f_x g_x h_x l_cj a_cj b_cj c_cj d_cj e_cj f_cj g_cj h_cj CK V_cj V_x
  clear hI hb hn ha
  go_upto_region 10 with fail
  obtain ⟨wy9, E⟩ : ∃ W, W = wx9.alloc (.cells #[.bool (decide (an < 0)), .slice A9a (natL an.natAbs).length c9a, .bool (decide (ad < 0)), .slice A9b (natL ad.natAbs).length c9b, .bool (decide (z0 < 0)), .slice A9c (natL z0.natAbs).length c9c, .bool (decide (o1 < 0)), .slice A9d (natL o1.natAbs).length c9d] 28) := ⟨_, rfl⟩
  obtain ⟨q9, hq⟩ : ∃ q, q = wx9.heap.size := ⟨_, rfl⟩
  rw [← E, ← hq] at F ⊢
  clear E hq
  obtain ⟨-, -, -, -, -, -, CK, -, -, -⟩ := F.out.h
  have kl := CK.blk.lt
  have k0 := CK.blk.cell 0
  simp at k0
  obtain ⟨-, -, V_pp, -, -, V_nn, -⟩ := F.out.h
  obtain ⟨l_nn, a_nn, b_nn, c_nn, d_nn, -, -, -, -⟩ := V_nn.quad.facts
  obtain ⟨l_pp, a_pp, b_pp, c_pp, d_pp, -, -, -, -⟩ := V_pp.quad.facts
  go_wp2_with fail
  refine (sameFrac_true _ _ _ _ wy9 V_nn.at_ V_pp.at_).mono ?_
  rintro e wx10 ⟨rfl, hb⟩
  have F := Hd (F.out.below hb)
  clear l_nn a_nn b_nn c_nn d_nn l_pp a_pp b_pp c_pp d_pp V_nn V_pp
  clear kl k0 CK
  clear hb
  obtain ⟨V_qq, -, -, -, V_an, -⟩ := F.out.h
  obtain ⟨l_qq, a_qq, b_qq, c_qq, d_qq, e_qq, f_qq, g_qq, h_qq⟩ := V_qq.oct.facts
  obtain ⟨l_an, a_an, b_an, c_an, d_an, -, -, -, -⟩ := V_an.quad.facts
  go_wp2_with fail
  refine (sameFrac_true _ _ _ _ wx10 V_qq.re V_an.at_).mono ?_
  rintro e wx11 ⟨rfl, hb⟩
  have F := Hd (F.out.below hb)
  clear l_qq a_qq b_qq c_qq d_qq e_qq f_qq g_qq h_qq l_an a_an b_an c_an d_an V_an V_qq
  clear hb
  obtain ⟨V_qq, -⟩ := F.out.h
  obtain ⟨l_qq, a_qq, b_qq, c_qq, d_qq, e_qq, f_qq, g_qq, h_qq⟩ := V_qq.oct.facts
  go_wp2_with fail
  refine (HC8.out wx11 _ V_qq.im).mono ?_
  rintro e wx12 ⟨rfl, hb⟩
  have F := Hd (F.out.below hb)
  clear l_qq a_qq b_qq c_qq d_qq e_qq f_qq g_qq h_qq V_qq
  clear hb
  obtain ⟨-, -, -, -, V_an, -⟩ := F.out.h
  obtain ⟨l_an, a_an, b_an, c_an, d_an, -, -, -, -⟩ := V_an.quad.facts
  go_wp2_with fail
  refine (HC9.out wx12 _ V_an.at_).mono ?_
  rintro e wx13 ⟨rfl, hb⟩
  have F := Hd (F.out.below hb)
  clear l_an a_an b_an c_an d_an V_an
  clear hb
  obtain ⟨-, -, -, -, -, -, -, -, -, HB⟩ := F.out.h
  have HE := Hd HB
  clear HB
  go_wp2_with fail
  refine (alive_true wx13 (HT.out.below2 HE.out)).mono ?_
  rintro e vx ⟨rfl, hb⟩
  have HE := Hd (belowTo HE.out hb)
  clear hb
  go_wp2_with fail
  go_ret
  exact ⟨rfl, HE.out⟩
end Go.Proofs.YthlehkjcfhnplaaGreatDoor
