/- Several texts in one: FieldW. -/
import Derived.Test.YthlehkjcfhnplaaGreatDoorGn35
import Derived.Test.YthlehkjcfhnplaaGreatDoorGnHd
import Derived.Test.YthlehkjcfhnplaaGreatDoorGn36
import Derived.Test.YthlehkjcfhnplaaGreatDoorGn40
import Derived.Test.YthlehkjcfhnplaaGreatDoorGn31
import Derived.Test.YthlehkjcfhnplaaGreatDoorGn38
import Derived.Test.YthlehkjcfhnplaaGreatDoorGn27
import Derived.Test.YthlehkjcfhnplaaGreatDoorGn22
import Derived.Test.YthlehkjcfhnplaaGreatDoorGn14
import Derived.Test.YthlehkjcfhnplaaGreatDoorGn12
import Derived.Test.YthlehkjcfhnplaaGreatDoorGn13
import Derived.Test.YthlehkjcfhnplaaGreatDoorGn07
import Derived.Test.YthlehkjcfhnplaaGreatDoorGn08
import Derived.Test.YthlehkjcfhnplaaGreatDoorGn10
import Derived.Test.YthlehkjcfhnplaaGreatDoorGn03
import Derived.Test.YthlehkjcfhnplaaGreatDoorGn02
import Derived.Test.YthlehkjcfhnplaaGreatDoorGn01
import Derived.Test.YthlehkjcfhnplaaGreatDoorGn09
import Derived.Test.YthlehkjcfhnplaaGreatDoorGn05
import Derived.Test.YthlehkjcfhnplaaGreatDoorGn04
import Derived.Test.YthlehkjcfhnplaaGreatDoorGn06
import Derived.Test.YthlehkjcfhnplaaGreatDoorGn11
import Derived.Test.YthlehkjcfhnplaaGreatDoorGn21
import Derived.Test.YthlehkjcfhnplaaGreatDoorGn20
import Derived.Test.YthlehkjcfhnplaaGreatDoorGn19
import Derived.Test.YthlehkjcfhnplaaGreatDoorGn18
import Derived.Test.YthlehkjcfhnplaaGreatDoorGn16
import Derived.Test.YthlehkjcfhnplaaGreatDoorGn15
import Derived.Test.YthlehkjcfhnplaaGreatDoorGn17
import Derived.Test.YthlehkjcfhnplaaGreatDoorGn24
import Derived.Test.YthlehkjcfhnplaaGreatDoorGn25
import Derived.Test.YthlehkjcfhnplaaGreatDoorGn26
import Derived.Test.YthlehkjcfhnplaaGreatDoorGn23
import Derived.Test.YthlehkjcfhnplaaGreatDoorGn30
import Derived.Test.YthlehkjcfhnplaaGreatDoorGn29
import Derived.Test.YthlehkjcfhnplaaGreatDoorGn28
import Derived.Test.YthlehkjcfhnplaaGreatDoorGn34
import Derived.Test.YthlehkjcfhnplaaGreatDoorGn33
import Derived.Test.YthlehkjcfhnplaaGreatDoorGn39
import Derived.Test.YthlehkjcfhnplaaGreatDoorGn32
set_option maxRecDepth 100000
set_option maxHeartbeats 8000000
/- GaussField: the walk. (Written by wip/gauss/genfield.py.) -/
namespace Go.Proofs.YthlehkjcfhnplaaGreatDoor
open Go.RowKit


theorem gfield_big {Ax1 Ax2 Ax3 Ax4 : Option Addr} {cx1 cx2 cx3 cx4 : Nat} {Ay1 Ay2 Ay3 Ay4 : Option Addr} {cy1 cy2 cy3 cy4 : Nat} {Az1 Az2 Az3 Az4 : Option Addr} {cz1 cz2 cz3 cz4 : Nat} {n1 n2 n3 n4 : Bool} {xs ys us vs : List Nat} {m1 m2 m3 m4 : Bool} {ps qs ks ts : List Nat} {k1 k2 k3 k4 : Bool} {os bs cs ds : List Nat} (CB : (∀ (V : World) (g : Nat), V.heap.size = g → GaussRaw V (.agg #[.bool n1, .slice Ax1 xs.length cx1, .bool n2, .slice Ax2 ys.length cx2, .bool n3, .slice Ax3 us.length cx3, .bool n4, .slice Ax4 vs.length cx4]) n1 n2 n3 n4 xs ys us vs → GaussRaw V (.agg #[.bool m1, .slice Ay1 ps.length cy1, .bool m2, .slice Ay2 qs.length cy2, .bool m3, .slice Ay3 ks.length cy3, .bool m4, .slice Ay4 ts.length cy4]) m1 m2 m3 m4 ps qs ks ts → GaussRaw V (.agg #[.bool k1, .slice Az1 os.length cz1, .bool k2, .slice Az2 bs.length cz2, .bool k3, .slice Az3 cs.length cz3, .bool k4, .slice Az4 ds.length cz4]) k1 k2 k3 k4 os bs cs ds → Calls Tryz.prog 25 #[.slice (some ⟨g, 0, none⟩) 3 3] (V.alloc (.cells #[.bool n1, .slice Ax1 xs.length cx1, .bool n2, .slice Ax2 ys.length cx2, .bool n3, .slice Ax3 us.length cx3, .bool n4, .slice Ax4 vs.length cx4, .bool m1, .slice Ay1 ps.length cy1, .bool m2, .slice Ay2 qs.length cy2, .bool m3, .slice Ay3 ks.length cy3, .bool m4, .slice Ay4 ts.length cy4, .bool k1, .slice Az1 os.length cz1, .bool k2, .slice Az2 bs.length cz2, .bool k3, .slice Az3 cs.length cz3, .bool k4, .slice Az4 ds.length cz4] 28)) fun e w' => e = .returned (.bool true) ∧ Below (V.alloc (.cells #[.bool n1, .slice Ax1 xs.length cx1, .bool n2, .slice Ax2 ys.length cx2, .bool n3, .slice Ax3 us.length cx3, .bool n4, .slice Ax4 vs.length cx4, .bool m1, .slice Ay1 ps.length cy1, .bool m2, .slice Ay2 qs.length cy2, .bool m3, .slice Ay3 ks.length cy3, .bool m4, .slice Ay4 ts.length cy4, .bool k1, .slice Az1 os.length cz1, .bool k2, .slice Az2 bs.length cz2, .bool k3, .slice Az3 cs.length cz3, .bool k4, .slice Az4 ds.length cz4] 28)).heap.size (V.alloc (.cells #[.bool n1, .slice Ax1 xs.length cx1, .bool n2, .slice Ax2 ys.length cx2, .bool n3, .slice Ax3 us.length cx3, .bool n4, .slice Ax4 vs.length cx4, .bool m1, .slice Ay1 ps.length cy1, .bool m2, .slice Ay2 qs.length cy2, .bool m3, .slice Ay3 ks.length cy3, .bool m4, .slice Ay4 ts.length cy4, .bool k1, .slice Az1 os.length cz1, .bool k2, .slice Az2 bs.length cz2, .bool k3, .slice Az3 cs.length cz3, .bool k4, .slice Az4 ds.length cz4] 28)) w')) (w : World) (g_x : GaussRaw w (.agg #[.bool n1, .slice Ax1 xs.length cx1, .bool n2, .slice Ax2 ys.length cx2, .bool n3, .slice Ax3 us.length cx3, .bool n4, .slice Ax4 vs.length cx4]) n1 n2 n3 n4 xs ys us vs) (g_y : GaussRaw w (.agg #[.bool m1, .slice Ay1 ps.length cy1, .bool m2, .slice Ay2 qs.length cy2, .bool m3, .slice Ay3 ks.length cy3, .bool m4, .slice Ay4 ts.length cy4]) m1 m2 m3 m4 ps qs ks ts) (g_z : GaussRaw w (.agg #[.bool k1, .slice Az1 os.length cz1, .bool k2, .slice Az2 bs.length cz2, .bool k3, .slice Az3 cs.length cz3, .bool k4, .slice Az4 ds.length cz4]) k1 k2 k3 k4 os bs cs ds) (htab : powTab w) :
    Calls Tryz.prog 5 #[.agg #[.bool n1, .slice Ax1 xs.length cx1, .bool n2, .slice Ax2 ys.length cx2, .bool n3, .slice Ax3 us.length cx3, .bool n4, .slice Ax4 vs.length cx4], .agg #[.bool m1, .slice Ay1 ps.length cy1, .bool m2, .slice Ay2 qs.length cy2, .bool m3, .slice Ay3 ks.length cy3, .bool m4, .slice Ay4 ts.length cy4], .agg #[.bool k1, .slice Az1 os.length cz1, .bool k2, .slice Az2 bs.length cz2, .bool k3, .slice Az3 cs.length cz3, .bool k4, .slice Az4 ds.length cz4]] w fun e w' => e = .returned (.bool true) ∧ Below w.heap.size w w' := by
  have HC := Hd CB
  have HT := Hd htab
  have G_x := Hd g_x
  have G_y := Hd g_y
  have G_z := Hd g_z
  clear CB htab  g_x g_y g_z
  go_enter Tryz.func5, Tryz.ntmps5
  go_upto_region 1 with fail
  refine boxes3 (P := fun W => Code.wp _ _ _ _ W) fun W p0 p1 p2 b0 => ?_
  have P_x := Hd (Oct.mk p0)
  have P_y := Hd (Oct.mk p1)
  have P_z := Hd (Oct.mk p2)
  have HB := Hd b0
  clear b0 p0 p1 p2
  obtain ⟨-, a_x0, a_x1, a_x2, a_x3, a_x4, a_x5, a_x6, a_x7⟩ := P_x.out.facts
  obtain ⟨-, a_y0, a_y1, a_y2, a_y3, a_y4, a_y5, a_y6, a_y7⟩ := P_y.out.facts
  obtain ⟨-, a_z0, a_z1, a_z2, a_z3, a_z4, a_z5, a_z6, a_z7⟩ := P_z.out.facts
  go_wp2_with fail
  refine (HC.out W _ rfl (G_x.out.below HB.out) (G_y.out.below HB.out) (G_z.out.below HB.out)).mono ?_
  rintro e w1 ⟨rfl, hb⟩
  have hb := ((Below.refl W.heap.size W).alloc (Nat.le_refl _) (.cells #[.bool n1, .slice Ax1 xs.length cx1, .bool n2, .slice Ax2 ys.length cx2, .bool n3, .slice Ax3 us.length cx3, .bool n4, .slice Ax4 vs.length cx4, .bool m1, .slice Ay1 ps.length cy1, .bool m2, .slice Ay2 qs.length cy2, .bool m3, .slice Ay3 ks.length cy3, .bool m4, .slice Ay4 ts.length cy4, .bool k1, .slice Az1 os.length cz1, .bool k2, .slice Az2 bs.length cz2, .bool k3, .slice Az3 cs.length cz3, .bool k4, .slice Az4 ds.length cz4] 28)).trans (hb.mono (by simp))
  clear a_x0 a_x1 a_x2 a_x3 a_x4 a_x5 a_x6 a_x7 a_y0 a_y1 a_y2 a_y3 a_y4 a_y5 a_y6 a_y7 a_z0 a_z1 a_z2 a_z3 a_z4 a_z5 a_z6 a_z7
  have P_x := Hd (P_x.out.below hb)
  have P_y := Hd (P_y.out.below hb)
  have P_z := Hd (P_z.out.below hb)
  have HB := Hd (belowTo HB.out hb)
  clear hb
  go_wp2_with fail
  refine (alive_true w1 (HT.out.below2 HB.out)).mono ?_
  rintro e wx1 ⟨rfl, hb⟩
  have P_x := Hd (P_x.out.below hb)
  have P_y := Hd (P_y.out.below hb)
  have P_z := Hd (P_z.out.below hb)
  have HB := Hd (belowTo HB.out hb)
  clear hb
  go_wp2_with fail
  go_ret
  exact ⟨rfl, HB.out⟩

theorem gfield_bad0 {Ax1 Ax2 Ax3 Ax4 : Option Addr} {cx1 cx2 cx3 cx4 : Nat} {Ay1 Ay2 Ay3 Ay4 : Option Addr} {cy1 cy2 cy3 cy4 : Nat} {Az1 Az2 Az3 Az4 : Option Addr} {cz1 cz2 cz3 cz4 : Nat} {n1 n2 n3 n4 : Bool} {xs ys us vs : List Nat} {m1 m2 m3 m4 : Bool} {ps qs ks ts : List Nat} {k1 k2 k3 k4 : Bool} {os bs cs ds : List Nat} (CB : (∀ (V : World) (g : Nat), V.heap.size = g → GaussRaw V (.agg #[.bool n1, .slice Ax1 xs.length cx1, .bool n2, .slice Ax2 ys.length cx2, .bool n3, .slice Ax3 us.length cx3, .bool n4, .slice Ax4 vs.length cx4]) n1 n2 n3 n4 xs ys us vs → GaussRaw V (.agg #[.bool m1, .slice Ay1 ps.length cy1, .bool m2, .slice Ay2 qs.length cy2, .bool m3, .slice Ay3 ks.length cy3, .bool m4, .slice Ay4 ts.length cy4]) m1 m2 m3 m4 ps qs ks ts → GaussRaw V (.agg #[.bool k1, .slice Az1 os.length cz1, .bool k2, .slice Az2 bs.length cz2, .bool k3, .slice Az3 cs.length cz3, .bool k4, .slice Az4 ds.length cz4]) k1 k2 k3 k4 os bs cs ds → Calls Tryz.prog 25 #[.slice (some ⟨g, 0, none⟩) 3 3] (V.alloc (.cells #[.bool n1, .slice Ax1 xs.length cx1, .bool n2, .slice Ax2 ys.length cx2, .bool n3, .slice Ax3 us.length cx3, .bool n4, .slice Ax4 vs.length cx4, .bool m1, .slice Ay1 ps.length cy1, .bool m2, .slice Ay2 qs.length cy2, .bool m3, .slice Ay3 ks.length cy3, .bool m4, .slice Ay4 ts.length cy4, .bool k1, .slice Az1 os.length cz1, .bool k2, .slice Az2 bs.length cz2, .bool k3, .slice Az3 cs.length cz3, .bool k4, .slice Az4 ds.length cz4] 28)) fun e w' => e = .returned (.bool false) ∧ Below (V.alloc (.cells #[.bool n1, .slice Ax1 xs.length cx1, .bool n2, .slice Ax2 ys.length cx2, .bool n3, .slice Ax3 us.length cx3, .bool n4, .slice Ax4 vs.length cx4, .bool m1, .slice Ay1 ps.length cy1, .bool m2, .slice Ay2 qs.length cy2, .bool m3, .slice Ay3 ks.length cy3, .bool m4, .slice Ay4 ts.length cy4, .bool k1, .slice Az1 os.length cz1, .bool k2, .slice Az2 bs.length cz2, .bool k3, .slice Az3 cs.length cz3, .bool k4, .slice Az4 ds.length cz4] 28)).heap.size (V.alloc (.cells #[.bool n1, .slice Ax1 xs.length cx1, .bool n2, .slice Ax2 ys.length cx2, .bool n3, .slice Ax3 us.length cx3, .bool n4, .slice Ax4 vs.length cx4, .bool m1, .slice Ay1 ps.length cy1, .bool m2, .slice Ay2 qs.length cy2, .bool m3, .slice Ay3 ks.length cy3, .bool m4, .slice Ay4 ts.length cy4, .bool k1, .slice Az1 os.length cz1, .bool k2, .slice Az2 bs.length cz2, .bool k3, .slice Az3 cs.length cz3, .bool k4, .slice Az4 ds.length cz4] 28)) w')) (K0 : ∀ (V : World) (v : Value), GaussRaw V v n1 n2 n3 n4 xs ys us vs → Calls Tryz.prog 14 #[v] V fun e w' => e = .returned (.int .i64 1) ∧ Below V.heap.size V w') (w : World) (g_x : GaussRaw w (.agg #[.bool n1, .slice Ax1 xs.length cx1, .bool n2, .slice Ax2 ys.length cx2, .bool n3, .slice Ax3 us.length cx3, .bool n4, .slice Ax4 vs.length cx4]) n1 n2 n3 n4 xs ys us vs) (g_y : GaussRaw w (.agg #[.bool m1, .slice Ay1 ps.length cy1, .bool m2, .slice Ay2 qs.length cy2, .bool m3, .slice Ay3 ks.length cy3, .bool m4, .slice Ay4 ts.length cy4]) m1 m2 m3 m4 ps qs ks ts) (g_z : GaussRaw w (.agg #[.bool k1, .slice Az1 os.length cz1, .bool k2, .slice Az2 bs.length cz2, .bool k3, .slice Az3 cs.length cz3, .bool k4, .slice Az4 ds.length cz4]) k1 k2 k3 k4 os bs cs ds) (htab : powTab w) :
    Calls Tryz.prog 5 #[.agg #[.bool n1, .slice Ax1 xs.length cx1, .bool n2, .slice Ax2 ys.length cx2, .bool n3, .slice Ax3 us.length cx3, .bool n4, .slice Ax4 vs.length cx4], .agg #[.bool m1, .slice Ay1 ps.length cy1, .bool m2, .slice Ay2 qs.length cy2, .bool m3, .slice Ay3 ks.length cy3, .bool m4, .slice Ay4 ts.length cy4], .agg #[.bool k1, .slice Az1 os.length cz1, .bool k2, .slice Az2 bs.length cz2, .bool k3, .slice Az3 cs.length cz3, .bool k4, .slice Az4 ds.length cz4]] w fun e w' => e = .returned (.bool true) ∧ Below w.heap.size w w' := by
  have HC := Hd CB
  have HK0 := Hd K0
  have HT := Hd htab
  have G_x := Hd g_x
  have G_y := Hd g_y
  have G_z := Hd g_z
  clear CB htab K0 g_x g_y g_z
  go_enter Tryz.func5, Tryz.ntmps5
  go_upto_region 1 with fail
  refine boxes3 (P := fun W => Code.wp _ _ _ _ W) fun W p0 p1 p2 b0 => ?_
  have P_x := Hd (Oct.mk p0)
  have P_y := Hd (Oct.mk p1)
  have P_z := Hd (Oct.mk p2)
  have HB := Hd b0
  clear b0 p0 p1 p2
  obtain ⟨-, a_x0, a_x1, a_x2, a_x3, a_x4, a_x5, a_x6, a_x7⟩ := P_x.out.facts
  obtain ⟨-, a_y0, a_y1, a_y2, a_y3, a_y4, a_y5, a_y6, a_y7⟩ := P_y.out.facts
  obtain ⟨-, a_z0, a_z1, a_z2, a_z3, a_z4, a_z5, a_z6, a_z7⟩ := P_z.out.facts
  go_wp2_with fail
  refine (HC.out W _ rfl (G_x.out.below HB.out) (G_y.out.below HB.out) (G_z.out.below HB.out)).mono ?_
  rintro e w1 ⟨rfl, hb⟩
  have hb := ((Below.refl W.heap.size W).alloc (Nat.le_refl _) (.cells #[.bool n1, .slice Ax1 xs.length cx1, .bool n2, .slice Ax2 ys.length cx2, .bool n3, .slice Ax3 us.length cx3, .bool n4, .slice Ax4 vs.length cx4, .bool m1, .slice Ay1 ps.length cy1, .bool m2, .slice Ay2 qs.length cy2, .bool m3, .slice Ay3 ks.length cy3, .bool m4, .slice Ay4 ts.length cy4, .bool k1, .slice Az1 os.length cz1, .bool k2, .slice Az2 bs.length cz2, .bool k3, .slice Az3 cs.length cz3, .bool k4, .slice Az4 ds.length cz4] 28)).trans (hb.mono (by simp))
  clear a_x0 a_x1 a_x2 a_x3 a_x4 a_x5 a_x6 a_x7 a_y0 a_y1 a_y2 a_y3 a_y4 a_y5 a_y6 a_y7 a_z0 a_z1 a_z2 a_z3 a_z4 a_z5 a_z6 a_z7
  have P_x := Hd (P_x.out.below hb)
  have P_y := Hd (P_y.out.below hb)
  have P_z := Hd (P_z.out.below hb)
  have HB := Hd (belowTo HB.out hb)
  clear hb
  obtain ⟨-, a_x0, a_x1, a_x2, a_x3, a_x4, a_x5, a_x6, a_x7⟩ := P_x.out.facts
  go_wp2_with fail
  refine (HK0.out w1 _ (G_x.out.below HB.out)).mono ?_
  rintro e wx1 ⟨rfl, hb⟩
  clear a_x0 a_x1 a_x2 a_x3 a_x4 a_x5 a_x6 a_x7
  have P_x := Hd (P_x.out.below hb)
  have P_y := Hd (P_y.out.below hb)
  have P_z := Hd (P_z.out.below hb)
  have HB := Hd (belowTo HB.out hb)
  clear hb
  go_wp2_with fail
  refine (alive_true wx1 (HT.out.below2 HB.out)).mono ?_
  rintro e wx2 ⟨rfl, hb⟩
  have P_x := Hd (P_x.out.below hb)
  have P_y := Hd (P_y.out.below hb)
  have P_z := Hd (P_z.out.below hb)
  have HB := Hd (belowTo HB.out hb)
  clear hb
  go_wp2_with fail
  go_ret
  exact ⟨rfl, HB.out⟩

theorem gfield_bad1 {Ax1 Ax2 Ax3 Ax4 : Option Addr} {cx1 cx2 cx3 cx4 : Nat} {Ay1 Ay2 Ay3 Ay4 : Option Addr} {cy1 cy2 cy3 cy4 : Nat} {Az1 Az2 Az3 Az4 : Option Addr} {cz1 cz2 cz3 cz4 : Nat} {n1 n2 n3 n4 : Bool} {xs ys us vs : List Nat} {m1 m2 m3 m4 : Bool} {ps qs ks ts : List Nat} {k1 k2 k3 k4 : Bool} {os bs cs ds : List Nat} (CB : (∀ (V : World) (g : Nat), V.heap.size = g → GaussRaw V (.agg #[.bool n1, .slice Ax1 xs.length cx1, .bool n2, .slice Ax2 ys.length cx2, .bool n3, .slice Ax3 us.length cx3, .bool n4, .slice Ax4 vs.length cx4]) n1 n2 n3 n4 xs ys us vs → GaussRaw V (.agg #[.bool m1, .slice Ay1 ps.length cy1, .bool m2, .slice Ay2 qs.length cy2, .bool m3, .slice Ay3 ks.length cy3, .bool m4, .slice Ay4 ts.length cy4]) m1 m2 m3 m4 ps qs ks ts → GaussRaw V (.agg #[.bool k1, .slice Az1 os.length cz1, .bool k2, .slice Az2 bs.length cz2, .bool k3, .slice Az3 cs.length cz3, .bool k4, .slice Az4 ds.length cz4]) k1 k2 k3 k4 os bs cs ds → Calls Tryz.prog 25 #[.slice (some ⟨g, 0, none⟩) 3 3] (V.alloc (.cells #[.bool n1, .slice Ax1 xs.length cx1, .bool n2, .slice Ax2 ys.length cx2, .bool n3, .slice Ax3 us.length cx3, .bool n4, .slice Ax4 vs.length cx4, .bool m1, .slice Ay1 ps.length cy1, .bool m2, .slice Ay2 qs.length cy2, .bool m3, .slice Ay3 ks.length cy3, .bool m4, .slice Ay4 ts.length cy4, .bool k1, .slice Az1 os.length cz1, .bool k2, .slice Az2 bs.length cz2, .bool k3, .slice Az3 cs.length cz3, .bool k4, .slice Az4 ds.length cz4] 28)) fun e w' => e = .returned (.bool false) ∧ Below (V.alloc (.cells #[.bool n1, .slice Ax1 xs.length cx1, .bool n2, .slice Ax2 ys.length cx2, .bool n3, .slice Ax3 us.length cx3, .bool n4, .slice Ax4 vs.length cx4, .bool m1, .slice Ay1 ps.length cy1, .bool m2, .slice Ay2 qs.length cy2, .bool m3, .slice Ay3 ks.length cy3, .bool m4, .slice Ay4 ts.length cy4, .bool k1, .slice Az1 os.length cz1, .bool k2, .slice Az2 bs.length cz2, .bool k3, .slice Az3 cs.length cz3, .bool k4, .slice Az4 ds.length cz4] 28)).heap.size (V.alloc (.cells #[.bool n1, .slice Ax1 xs.length cx1, .bool n2, .slice Ax2 ys.length cx2, .bool n3, .slice Ax3 us.length cx3, .bool n4, .slice Ax4 vs.length cx4, .bool m1, .slice Ay1 ps.length cy1, .bool m2, .slice Ay2 qs.length cy2, .bool m3, .slice Ay3 ks.length cy3, .bool m4, .slice Ay4 ts.length cy4, .bool k1, .slice Az1 os.length cz1, .bool k2, .slice Az2 bs.length cz2, .bool k3, .slice Az3 cs.length cz3, .bool k4, .slice Az4 ds.length cz4] 28)) w')) (K0 : ∀ (V : World) (v : Value), GaussRaw V v n1 n2 n3 n4 xs ys us vs → Calls Tryz.prog 14 #[v] V fun e w' => e = .returned (.int .i64 0) ∧ Below V.heap.size V w') (K1 : ∀ (V : World) (v : Value), GaussRaw V v m1 m2 m3 m4 ps qs ks ts → Calls Tryz.prog 14 #[v] V fun e w' => e = .returned (.int .i64 1) ∧ Below V.heap.size V w') (w : World) (g_x : GaussRaw w (.agg #[.bool n1, .slice Ax1 xs.length cx1, .bool n2, .slice Ax2 ys.length cx2, .bool n3, .slice Ax3 us.length cx3, .bool n4, .slice Ax4 vs.length cx4]) n1 n2 n3 n4 xs ys us vs) (g_y : GaussRaw w (.agg #[.bool m1, .slice Ay1 ps.length cy1, .bool m2, .slice Ay2 qs.length cy2, .bool m3, .slice Ay3 ks.length cy3, .bool m4, .slice Ay4 ts.length cy4]) m1 m2 m3 m4 ps qs ks ts) (g_z : GaussRaw w (.agg #[.bool k1, .slice Az1 os.length cz1, .bool k2, .slice Az2 bs.length cz2, .bool k3, .slice Az3 cs.length cz3, .bool k4, .slice Az4 ds.length cz4]) k1 k2 k3 k4 os bs cs ds) (htab : powTab w) :
    Calls Tryz.prog 5 #[.agg #[.bool n1, .slice Ax1 xs.length cx1, .bool n2, .slice Ax2 ys.length cx2, .bool n3, .slice Ax3 us.length cx3, .bool n4, .slice Ax4 vs.length cx4], .agg #[.bool m1, .slice Ay1 ps.length cy1, .bool m2, .slice Ay2 qs.length cy2, .bool m3, .slice Ay3 ks.length cy3, .bool m4, .slice Ay4 ts.length cy4], .agg #[.bool k1, .slice Az1 os.length cz1, .bool k2, .slice Az2 bs.length cz2, .bool k3, .slice Az3 cs.length cz3, .bool k4, .slice Az4 ds.length cz4]] w fun e w' => e = .returned (.bool true) ∧ Below w.heap.size w w' := by
  have HC := Hd CB
  have HK0 := Hd K0
  have HK1 := Hd K1
  have HT := Hd htab
  have G_x := Hd g_x
  have G_y := Hd g_y
  have G_z := Hd g_z
  clear CB htab K0 K1 g_x g_y g_z
  go_enter Tryz.func5, Tryz.ntmps5
  go_upto_region 1 with fail
  refine boxes3 (P := fun W => Code.wp _ _ _ _ W) fun W p0 p1 p2 b0 => ?_
  have P_x := Hd (Oct.mk p0)
  have P_y := Hd (Oct.mk p1)
  have P_z := Hd (Oct.mk p2)
  have HB := Hd b0
  clear b0 p0 p1 p2
  obtain ⟨-, a_x0, a_x1, a_x2, a_x3, a_x4, a_x5, a_x6, a_x7⟩ := P_x.out.facts
  obtain ⟨-, a_y0, a_y1, a_y2, a_y3, a_y4, a_y5, a_y6, a_y7⟩ := P_y.out.facts
  obtain ⟨-, a_z0, a_z1, a_z2, a_z3, a_z4, a_z5, a_z6, a_z7⟩ := P_z.out.facts
  go_wp2_with fail
  refine (HC.out W _ rfl (G_x.out.below HB.out) (G_y.out.below HB.out) (G_z.out.below HB.out)).mono ?_
  rintro e w1 ⟨rfl, hb⟩
  have hb := ((Below.refl W.heap.size W).alloc (Nat.le_refl _) (.cells #[.bool n1, .slice Ax1 xs.length cx1, .bool n2, .slice Ax2 ys.length cx2, .bool n3, .slice Ax3 us.length cx3, .bool n4, .slice Ax4 vs.length cx4, .bool m1, .slice Ay1 ps.length cy1, .bool m2, .slice Ay2 qs.length cy2, .bool m3, .slice Ay3 ks.length cy3, .bool m4, .slice Ay4 ts.length cy4, .bool k1, .slice Az1 os.length cz1, .bool k2, .slice Az2 bs.length cz2, .bool k3, .slice Az3 cs.length cz3, .bool k4, .slice Az4 ds.length cz4] 28)).trans (hb.mono (by simp))
  clear a_x0 a_x1 a_x2 a_x3 a_x4 a_x5 a_x6 a_x7 a_y0 a_y1 a_y2 a_y3 a_y4 a_y5 a_y6 a_y7 a_z0 a_z1 a_z2 a_z3 a_z4 a_z5 a_z6 a_z7
  have P_x := Hd (P_x.out.below hb)
  have P_y := Hd (P_y.out.below hb)
  have P_z := Hd (P_z.out.below hb)
  have HB := Hd (belowTo HB.out hb)
  clear hb
  obtain ⟨-, a_x0, a_x1, a_x2, a_x3, a_x4, a_x5, a_x6, a_x7⟩ := P_x.out.facts
  go_wp2_with fail
  refine (HK0.out w1 _ (G_x.out.below HB.out)).mono ?_
  rintro e wx1 ⟨rfl, hb⟩
  clear a_x0 a_x1 a_x2 a_x3 a_x4 a_x5 a_x6 a_x7
  have P_x := Hd (P_x.out.below hb)
  have P_y := Hd (P_y.out.below hb)
  have P_z := Hd (P_z.out.below hb)
  have HB := Hd (belowTo HB.out hb)
  clear hb
  obtain ⟨-, a_y0, a_y1, a_y2, a_y3, a_y4, a_y5, a_y6, a_y7⟩ := P_y.out.facts
  go_wp2_with fail
  refine (HK1.out wx1 _ (G_y.out.below HB.out)).mono ?_
  rintro e wx2 ⟨rfl, hb⟩
  clear a_y0 a_y1 a_y2 a_y3 a_y4 a_y5 a_y6 a_y7
  have P_x := Hd (P_x.out.below hb)
  have P_y := Hd (P_y.out.below hb)
  have P_z := Hd (P_z.out.below hb)
  have HB := Hd (belowTo HB.out hb)
  clear hb
  go_wp2_with fail
  refine (alive_true wx2 (HT.out.below2 HB.out)).mono ?_
  rintro e wx3 ⟨rfl, hb⟩
  have P_x := Hd (P_x.out.below hb)
  have P_y := Hd (P_y.out.below hb)
  have P_z := Hd (P_z.out.below hb)
  have HB := Hd (belowTo HB.out hb)
  clear hb
  go_wp2_with fail
  go_ret
  exact ⟨rfl, HB.out⟩

theorem gfield_bad2 {Ax1 Ax2 Ax3 Ax4 : Option Addr} {cx1 cx2 cx3 cx4 : Nat} {Ay1 Ay2 Ay3 Ay4 : Option Addr} {cy1 cy2 cy3 cy4 : Nat} {Az1 Az2 Az3 Az4 : Option Addr} {cz1 cz2 cz3 cz4 : Nat} {n1 n2 n3 n4 : Bool} {xs ys us vs : List Nat} {m1 m2 m3 m4 : Bool} {ps qs ks ts : List Nat} {k1 k2 k3 k4 : Bool} {os bs cs ds : List Nat} (CB : (∀ (V : World) (g : Nat), V.heap.size = g → GaussRaw V (.agg #[.bool n1, .slice Ax1 xs.length cx1, .bool n2, .slice Ax2 ys.length cx2, .bool n3, .slice Ax3 us.length cx3, .bool n4, .slice Ax4 vs.length cx4]) n1 n2 n3 n4 xs ys us vs → GaussRaw V (.agg #[.bool m1, .slice Ay1 ps.length cy1, .bool m2, .slice Ay2 qs.length cy2, .bool m3, .slice Ay3 ks.length cy3, .bool m4, .slice Ay4 ts.length cy4]) m1 m2 m3 m4 ps qs ks ts → GaussRaw V (.agg #[.bool k1, .slice Az1 os.length cz1, .bool k2, .slice Az2 bs.length cz2, .bool k3, .slice Az3 cs.length cz3, .bool k4, .slice Az4 ds.length cz4]) k1 k2 k3 k4 os bs cs ds → Calls Tryz.prog 25 #[.slice (some ⟨g, 0, none⟩) 3 3] (V.alloc (.cells #[.bool n1, .slice Ax1 xs.length cx1, .bool n2, .slice Ax2 ys.length cx2, .bool n3, .slice Ax3 us.length cx3, .bool n4, .slice Ax4 vs.length cx4, .bool m1, .slice Ay1 ps.length cy1, .bool m2, .slice Ay2 qs.length cy2, .bool m3, .slice Ay3 ks.length cy3, .bool m4, .slice Ay4 ts.length cy4, .bool k1, .slice Az1 os.length cz1, .bool k2, .slice Az2 bs.length cz2, .bool k3, .slice Az3 cs.length cz3, .bool k4, .slice Az4 ds.length cz4] 28)) fun e w' => e = .returned (.bool false) ∧ Below (V.alloc (.cells #[.bool n1, .slice Ax1 xs.length cx1, .bool n2, .slice Ax2 ys.length cx2, .bool n3, .slice Ax3 us.length cx3, .bool n4, .slice Ax4 vs.length cx4, .bool m1, .slice Ay1 ps.length cy1, .bool m2, .slice Ay2 qs.length cy2, .bool m3, .slice Ay3 ks.length cy3, .bool m4, .slice Ay4 ts.length cy4, .bool k1, .slice Az1 os.length cz1, .bool k2, .slice Az2 bs.length cz2, .bool k3, .slice Az3 cs.length cz3, .bool k4, .slice Az4 ds.length cz4] 28)).heap.size (V.alloc (.cells #[.bool n1, .slice Ax1 xs.length cx1, .bool n2, .slice Ax2 ys.length cx2, .bool n3, .slice Ax3 us.length cx3, .bool n4, .slice Ax4 vs.length cx4, .bool m1, .slice Ay1 ps.length cy1, .bool m2, .slice Ay2 qs.length cy2, .bool m3, .slice Ay3 ks.length cy3, .bool m4, .slice Ay4 ts.length cy4, .bool k1, .slice Az1 os.length cz1, .bool k2, .slice Az2 bs.length cz2, .bool k3, .slice Az3 cs.length cz3, .bool k4, .slice Az4 ds.length cz4] 28)) w')) (K0 : ∀ (V : World) (v : Value), GaussRaw V v n1 n2 n3 n4 xs ys us vs → Calls Tryz.prog 14 #[v] V fun e w' => e = .returned (.int .i64 0) ∧ Below V.heap.size V w') (K1 : ∀ (V : World) (v : Value), GaussRaw V v m1 m2 m3 m4 ps qs ks ts → Calls Tryz.prog 14 #[v] V fun e w' => e = .returned (.int .i64 0) ∧ Below V.heap.size V w') (K2 : ∀ (V : World) (v : Value), GaussRaw V v k1 k2 k3 k4 os bs cs ds → Calls Tryz.prog 14 #[v] V fun e w' => e = .returned (.int .i64 1) ∧ Below V.heap.size V w') (w : World) (g_x : GaussRaw w (.agg #[.bool n1, .slice Ax1 xs.length cx1, .bool n2, .slice Ax2 ys.length cx2, .bool n3, .slice Ax3 us.length cx3, .bool n4, .slice Ax4 vs.length cx4]) n1 n2 n3 n4 xs ys us vs) (g_y : GaussRaw w (.agg #[.bool m1, .slice Ay1 ps.length cy1, .bool m2, .slice Ay2 qs.length cy2, .bool m3, .slice Ay3 ks.length cy3, .bool m4, .slice Ay4 ts.length cy4]) m1 m2 m3 m4 ps qs ks ts) (g_z : GaussRaw w (.agg #[.bool k1, .slice Az1 os.length cz1, .bool k2, .slice Az2 bs.length cz2, .bool k3, .slice Az3 cs.length cz3, .bool k4, .slice Az4 ds.length cz4]) k1 k2 k3 k4 os bs cs ds) (htab : powTab w) :
    Calls Tryz.prog 5 #[.agg #[.bool n1, .slice Ax1 xs.length cx1, .bool n2, .slice Ax2 ys.length cx2, .bool n3, .slice Ax3 us.length cx3, .bool n4, .slice Ax4 vs.length cx4], .agg #[.bool m1, .slice Ay1 ps.length cy1, .bool m2, .slice Ay2 qs.length cy2, .bool m3, .slice Ay3 ks.length cy3, .bool m4, .slice Ay4 ts.length cy4], .agg #[.bool k1, .slice Az1 os.length cz1, .bool k2, .slice Az2 bs.length cz2, .bool k3, .slice Az3 cs.length cz3, .bool k4, .slice Az4 ds.length cz4]] w fun e w' => e = .returned (.bool true) ∧ Below w.heap.size w w' := by
  have HC := Hd CB
  have HK0 := Hd K0
  have HK1 := Hd K1
  have HK2 := Hd K2
  have HT := Hd htab
  have G_x := Hd g_x
  have G_y := Hd g_y
  have G_z := Hd g_z
  clear CB htab K0 K1 K2 g_x g_y g_z
  go_enter Tryz.func5, Tryz.ntmps5
  go_upto_region 1 with fail
  refine boxes3 (P := fun W => Code.wp _ _ _ _ W) fun W p0 p1 p2 b0 => ?_
  have P_x := Hd (Oct.mk p0)
  have P_y := Hd (Oct.mk p1)
  have P_z := Hd (Oct.mk p2)
  have HB := Hd b0
  clear b0 p0 p1 p2
  obtain ⟨-, a_x0, a_x1, a_x2, a_x3, a_x4, a_x5, a_x6, a_x7⟩ := P_x.out.facts
  obtain ⟨-, a_y0, a_y1, a_y2, a_y3, a_y4, a_y5, a_y6, a_y7⟩ := P_y.out.facts
  obtain ⟨-, a_z0, a_z1, a_z2, a_z3, a_z4, a_z5, a_z6, a_z7⟩ := P_z.out.facts
  go_wp2_with fail
  refine (HC.out W _ rfl (G_x.out.below HB.out) (G_y.out.below HB.out) (G_z.out.below HB.out)).mono ?_
  rintro e w1 ⟨rfl, hb⟩
  have hb := ((Below.refl W.heap.size W).alloc (Nat.le_refl _) (.cells #[.bool n1, .slice Ax1 xs.length cx1, .bool n2, .slice Ax2 ys.length cx2, .bool n3, .slice Ax3 us.length cx3, .bool n4, .slice Ax4 vs.length cx4, .bool m1, .slice Ay1 ps.length cy1, .bool m2, .slice Ay2 qs.length cy2, .bool m3, .slice Ay3 ks.length cy3, .bool m4, .slice Ay4 ts.length cy4, .bool k1, .slice Az1 os.length cz1, .bool k2, .slice Az2 bs.length cz2, .bool k3, .slice Az3 cs.length cz3, .bool k4, .slice Az4 ds.length cz4] 28)).trans (hb.mono (by simp))
  clear a_x0 a_x1 a_x2 a_x3 a_x4 a_x5 a_x6 a_x7 a_y0 a_y1 a_y2 a_y3 a_y4 a_y5 a_y6 a_y7 a_z0 a_z1 a_z2 a_z3 a_z4 a_z5 a_z6 a_z7
  have P_x := Hd (P_x.out.below hb)
  have P_y := Hd (P_y.out.below hb)
  have P_z := Hd (P_z.out.below hb)
  have HB := Hd (belowTo HB.out hb)
  clear hb
  obtain ⟨-, a_x0, a_x1, a_x2, a_x3, a_x4, a_x5, a_x6, a_x7⟩ := P_x.out.facts
  go_wp2_with fail
  refine (HK0.out w1 _ (G_x.out.below HB.out)).mono ?_
  rintro e wx1 ⟨rfl, hb⟩
  clear a_x0 a_x1 a_x2 a_x3 a_x4 a_x5 a_x6 a_x7
  have P_x := Hd (P_x.out.below hb)
  have P_y := Hd (P_y.out.below hb)
  have P_z := Hd (P_z.out.below hb)
  have HB := Hd (belowTo HB.out hb)
  clear hb
  obtain ⟨-, a_y0, a_y1, a_y2, a_y3, a_y4, a_y5, a_y6, a_y7⟩ := P_y.out.facts
  go_wp2_with fail
  refine (HK1.out wx1 _ (G_y.out.below HB.out)).mono ?_
  rintro e wx2 ⟨rfl, hb⟩
  clear a_y0 a_y1 a_y2 a_y3 a_y4 a_y5 a_y6 a_y7
  have P_x := Hd (P_x.out.below hb)
  have P_y := Hd (P_y.out.below hb)
  have P_z := Hd (P_z.out.below hb)
  have HB := Hd (belowTo HB.out hb)
  clear hb
  obtain ⟨-, a_z0, a_z1, a_z2, a_z3, a_z4, a_z5, a_z6, a_z7⟩ := P_z.out.facts
  go_wp2_with fail
  refine (HK2.out wx2 _ (G_z.out.below HB.out)).mono ?_
  rintro e wx3 ⟨rfl, hb⟩
  clear a_z0 a_z1 a_z2 a_z3 a_z4 a_z5 a_z6 a_z7
  have P_x := Hd (P_x.out.below hb)
  have P_y := Hd (P_y.out.below hb)
  have P_z := Hd (P_z.out.below hb)
  have HB := Hd (belowTo HB.out hb)
  clear hb
  go_wp2_with fail
  refine (alive_true wx3 (HT.out.below2 HB.out)).mono ?_
  rintro e wx4 ⟨rfl, hb⟩
  have P_x := Hd (P_x.out.below hb)
  have P_y := Hd (P_y.out.below hb)
  have P_z := Hd (P_z.out.below hb)
  have HB := Hd (belowTo HB.out hb)
  clear hb
  go_wp2_with fail
  go_ret
  exact ⟨rfl, HB.out⟩

theorem gfield_zero {Ax1 Ax2 Ax3 Ax4 : Option Addr} {cx1 cx2 cx3 cx4 : Nat} {Ay1 Ay2 Ay3 Ay4 : Option Addr} {cy1 cy2 cy3 cy4 : Nat} {Az1 Az2 Az3 Az4 : Option Addr} {cz1 cz2 cz3 cz4 : Nat} {n d m f p q r s a b c l sa1 sa2 sa3 sa4 ab1 ab2 ab3 ab4 tc1 tc2 tc3 tc4 cd1 cd2 cd3 cd4 gd1 gd2 gd3 gd4 qe1 qe2 qe3 qe4 hf1 hf2 hf3 hf4 z0 oo k0 : Int} (CB : (∀ (V : World) (g : Nat), V.heap.size = g → GaussAt V (.agg #[.bool (decide (n < 0)), .slice Ax1 (natL n.natAbs).length cx1, .bool (decide (d < 0)), .slice Ax2 (natL d.natAbs).length cx2, .bool (decide (m < 0)), .slice Ax3 (natL m.natAbs).length cx3, .bool (decide (f < 0)), .slice Ax4 (natL f.natAbs).length cx4]) n d m f → GaussAt V (.agg #[.bool (decide (p < 0)), .slice Ay1 (natL p.natAbs).length cy1, .bool (decide (q < 0)), .slice Ay2 (natL q.natAbs).length cy2, .bool (decide (r < 0)), .slice Ay3 (natL r.natAbs).length cy3, .bool (decide (s < 0)), .slice Ay4 (natL s.natAbs).length cy4]) p q r s → GaussAt V (.agg #[.bool (decide (a < 0)), .slice Az1 (natL a.natAbs).length cz1, .bool (decide (b < 0)), .slice Az2 (natL b.natAbs).length cz2, .bool (decide (c < 0)), .slice Az3 (natL c.natAbs).length cz3, .bool (decide (l < 0)), .slice Az4 (natL l.natAbs).length cz4]) a b c l → Calls Tryz.prog 25 #[.slice (some ⟨g, 0, none⟩) 3 3] (V.alloc (.cells #[.bool (decide (n < 0)), .slice Ax1 (natL n.natAbs).length cx1, .bool (decide (d < 0)), .slice Ax2 (natL d.natAbs).length cx2, .bool (decide (m < 0)), .slice Ax3 (natL m.natAbs).length cx3, .bool (decide (f < 0)), .slice Ax4 (natL f.natAbs).length cx4, .bool (decide (p < 0)), .slice Ay1 (natL p.natAbs).length cy1, .bool (decide (q < 0)), .slice Ay2 (natL q.natAbs).length cy2, .bool (decide (r < 0)), .slice Ay3 (natL r.natAbs).length cy3, .bool (decide (s < 0)), .slice Ay4 (natL s.natAbs).length cy4, .bool (decide (a < 0)), .slice Az1 (natL a.natAbs).length cz1, .bool (decide (b < 0)), .slice Az2 (natL b.natAbs).length cz2, .bool (decide (c < 0)), .slice Az3 (natL c.natAbs).length cz3, .bool (decide (l < 0)), .slice Az4 (natL l.natAbs).length cz4] 28)) fun e w' => e = .returned (.bool false) ∧ Below (V.alloc (.cells #[.bool (decide (n < 0)), .slice Ax1 (natL n.natAbs).length cx1, .bool (decide (d < 0)), .slice Ax2 (natL d.natAbs).length cx2, .bool (decide (m < 0)), .slice Ax3 (natL m.natAbs).length cx3, .bool (decide (f < 0)), .slice Ax4 (natL f.natAbs).length cx4, .bool (decide (p < 0)), .slice Ay1 (natL p.natAbs).length cy1, .bool (decide (q < 0)), .slice Ay2 (natL q.natAbs).length cy2, .bool (decide (r < 0)), .slice Ay3 (natL r.natAbs).length cy3, .bool (decide (s < 0)), .slice Ay4 (natL s.natAbs).length cy4, .bool (decide (a < 0)), .slice Az1 (natL a.natAbs).length cz1, .bool (decide (b < 0)), .slice Az2 (natL b.natAbs).length cz2, .bool (decide (c < 0)), .slice Az3 (natL c.natAbs).length cz3, .bool (decide (l < 0)), .slice Az4 (natL l.natAbs).length cz4] 28)).heap.size (V.alloc (.cells #[.bool (decide (n < 0)), .slice Ax1 (natL n.natAbs).length cx1, .bool (decide (d < 0)), .slice Ax2 (natL d.natAbs).length cx2, .bool (decide (m < 0)), .slice Ax3 (natL m.natAbs).length cx3, .bool (decide (f < 0)), .slice Ax4 (natL f.natAbs).length cx4, .bool (decide (p < 0)), .slice Ay1 (natL p.natAbs).length cy1, .bool (decide (q < 0)), .slice Ay2 (natL q.natAbs).length cy2, .bool (decide (r < 0)), .slice Ay3 (natL r.natAbs).length cy3, .bool (decide (s < 0)), .slice Ay4 (natL s.natAbs).length cy4, .bool (decide (a < 0)), .slice Az1 (natL a.natAbs).length cz1, .bool (decide (b < 0)), .slice Az2 (natL b.natAbs).length cz2, .bool (decide (c < 0)), .slice Az3 (natL c.natAbs).length cz3, .bool (decide (l < 0)), .slice Az4 (natL l.natAbs).length cz4] 28)) w')) (CK0 : ∀ (V : World) (v : Value), GaussAt V v n d m f → Calls Tryz.prog 14 #[v] V fun e w' => e = .returned (.int .i64 0) ∧ Below V.heap.size V w') (CK1 : ∀ (V : World) (v : Value), GaussAt V v p q r s → Calls Tryz.prog 14 #[v] V fun e w' => e = .returned (.int .i64 0) ∧ Below V.heap.size V w') (CK2 : ∀ (V : World) (v : Value), GaussAt V v a b c l → Calls Tryz.prog 14 #[v] V fun e w' => e = .returned (.int .i64 0) ∧ Below V.heap.size V w') (C1 : OpS 26 n d m f p q r s sa1 sa2 sa3 sa4) (C2 : OpS 26 sa1 sa2 sa3 sa4 a b c l ab1 ab2 ab3 ab4) (C3 : OpS 26 p q r s n d m f sa1 sa2 sa3 sa4) (C4 : OpS 26 a b c l sa1 sa2 sa3 sa4 ab1 ab2 ab3 ab4) (C5 : OpS 27 n d m f p q r s tc1 tc2 tc3 tc4) (C6 : OpS 27 tc1 tc2 tc3 tc4 a b c l cd1 cd2 cd3 cd4) (C7 : OpS 27 p q r s n d m f tc1 tc2 tc3 tc4) (C8 : OpS 27 a b c l tc1 tc2 tc3 tc4 cd1 cd2 cd3 cd4) (C9 : OpS 26 p q r s a b c l gd1 gd2 gd3 gd4) (C10 : OpS 27 n d m f gd1 gd2 gd3 gd4 qe1 qe2 qe3 qe4) (C11 : OpS 27 n d m f a b c l hf1 hf2 hf3 hf4) (C12 : OpS 26 tc1 tc2 tc3 tc4 hf1 hf2 hf3 hf4 qe1 qe2 qe3 qe4) (C13 : OpG2 28 ab1 ab2 ab3 ab4 a b c l sa1 sa2 sa3 sa4 0) (C15 : OpG2 29 cd1 cd2 cd3 cd4 a b c l k0 k0 k0 k0 3) (C14 : ∀ V : World, Calls Tryz.prog 11 #[.int .i64 0, .int .i64 0] V (RetGaussOwn V.heap.size V z0 oo z0 oo)) (C16 : ∀ (V : World) (v1 v2 : Value), GaussAt V v1 a b c l → GaussAt V v2 z0 oo z0 oo → Calls Tryz.prog 12 #[v1, v2] V fun e w' => e = .returned (.bool true) ∧ Below V.heap.size V w') (w : World) (g_x : GaussAt w (.agg #[.bool (decide (n < 0)), .slice Ax1 (natL n.natAbs).length cx1, .bool (decide (d < 0)), .slice Ax2 (natL d.natAbs).length cx2, .bool (decide (m < 0)), .slice Ax3 (natL m.natAbs).length cx3, .bool (decide (f < 0)), .slice Ax4 (natL f.natAbs).length cx4]) n d m f) (g_y : GaussAt w (.agg #[.bool (decide (p < 0)), .slice Ay1 (natL p.natAbs).length cy1, .bool (decide (q < 0)), .slice Ay2 (natL q.natAbs).length cy2, .bool (decide (r < 0)), .slice Ay3 (natL r.natAbs).length cy3, .bool (decide (s < 0)), .slice Ay4 (natL s.natAbs).length cy4]) p q r s) (g_z : GaussAt w (.agg #[.bool (decide (a < 0)), .slice Az1 (natL a.natAbs).length cz1, .bool (decide (b < 0)), .slice Az2 (natL b.natAbs).length cz2, .bool (decide (c < 0)), .slice Az3 (natL c.natAbs).length cz3, .bool (decide (l < 0)), .slice Az4 (natL l.natAbs).length cz4]) a b c l) (htab : powTab w) :
    Calls Tryz.prog 5 #[.agg #[.bool (decide (n < 0)), .slice Ax1 (natL n.natAbs).length cx1, .bool (decide (d < 0)), .slice Ax2 (natL d.natAbs).length cx2, .bool (decide (m < 0)), .slice Ax3 (natL m.natAbs).length cx3, .bool (decide (f < 0)), .slice Ax4 (natL f.natAbs).length cx4], .agg #[.bool (decide (p < 0)), .slice Ay1 (natL p.natAbs).length cy1, .bool (decide (q < 0)), .slice Ay2 (natL q.natAbs).length cy2, .bool (decide (r < 0)), .slice Ay3 (natL r.natAbs).length cy3, .bool (decide (s < 0)), .slice Ay4 (natL s.natAbs).length cy4], .agg #[.bool (decide (a < 0)), .slice Az1 (natL a.natAbs).length cz1, .bool (decide (b < 0)), .slice Az2 (natL b.natAbs).length cz2, .bool (decide (c < 0)), .slice Az3 (natL c.natAbs).length cz3, .bool (decide (l < 0)), .slice Az4 (natL l.natAbs).length cz4]] w fun e w' => e = .returned (.bool true) ∧ Below w.heap.size w w' := by
  have HC := Hd CB
  have HK0 := Hd CK0
  have HK1 := Hd CK1
  have HK2 := Hd CK2
  have HC1 := Hd C1
  have HC2 := Hd C2
  have HC3 := Hd C3
  have HC4 := Hd C4
  have HC5 := Hd C5
  have HC6 := Hd C6
  have HC7 := Hd C7
  have HC8 := Hd C8
  have HC9 := Hd C9
  have HC10 := Hd C10
  have HC11 := Hd C11
  have HC12 := Hd C12
  have HC13 := Hd C13
  have HC15 := Hd C15
  have HC14 := Hd C14
  have HC16 := Hd C16
  have HT := Hd htab
  clear CB htab CK0 CK1 CK2 C1 C2 C3 C4 C5 C6 C7 C8 C9 C10 C11 C12 C13 C15 C14 C16
  go_enter Tryz.func5, Tryz.ntmps5
  go_upto_region 1 with fail
  refine boxes3 (P := fun W => Code.wp _ _ _ _ W) fun W p0 p1 p2 b0 => ?_
  have F := Hd ((((Kp.base b0).add (GV.mk (Oct.mk p2) (g_z.below b0)) (fun _ _ => GV.below)).add (GV.mk (Oct.mk p1) (g_y.below b0)) (fun _ _ => GV.below)).add (GV.mk (Oct.mk p0) (g_x.below b0)) (fun _ _ => GV.below))
  clear b0 p0 g_x p1 g_y p2 g_z
  obtain ⟨V_x, V_y, V_z, -⟩ := F.out.h
  obtain ⟨l_x, a_x, b_x, c_x, d_x, e_x, f_x, g_x, h_x⟩ := V_x.oct.facts
  obtain ⟨l_y, a_y, b_y, c_y, d_y, e_y, f_y, g_y, h_y⟩ := V_y.oct.facts
  obtain ⟨l_z, a_z, b_z, c_z, d_z, e_z, f_z, g_z, h_z⟩ := V_z.oct.facts
  go_wp2_with fail
  refine (HC.out W _ rfl V_x.at_ V_y.at_ V_z.at_).mono ?_
  rintro e w1 ⟨rfl, hb⟩
  have F := Hd (F.out.below (((Below.refl W.heap.size W).alloc (Nat.le_refl _) (.cells #[.bool (decide (n < 0)), .slice Ax1 (natL n.natAbs).length cx1, .bool (decide (d < 0)), .slice Ax2 (natL d.natAbs).length cx2, .bool (decide (m < 0)), .slice Ax3 (natL m.natAbs).length cx3, .bool (decide (f < 0)), .slice Ax4 (natL f.natAbs).length cx4, .bool (decide (p < 0)), .slice Ay1 (natL p.natAbs).length cy1, .bool (decide (q < 0)), .slice Ay2 (natL q.natAbs).length cy2, .bool (decide (r < 0)), .slice Ay3 (natL r.natAbs).length cy3, .bool (decide (s < 0)), .slice Ay4 (natL s.natAbs).length cy4, .bool (decide (a < 0)), .slice Az1 (natL a.natAbs).length cz1, .bool (decide (b < 0)), .slice Az2 (natL b.natAbs).length cz2, .bool (decide (c < 0)), .slice Az3 (natL c.natAbs).length cz3, .bool (decide (l < 0)), .slice Az4 (natL l.natAbs).length cz4] 28)).trans (hb.mono (by simp))))
  clear l_x a_x b_x c_x d_x e_x f_x g_x h_x l_y a_y b_y c_y d_y e_y f_y g_y h_y l_z a_z b_z c_z d_z e_z f_z g_z h_z V_x V_y V_z
  clear hb
  obtain ⟨V_x, -⟩ := F.out.h
  obtain ⟨l_x, a_x, b_x, c_x, d_x, e_x, f_x, g_x, h_x⟩ := V_x.oct.facts
  go_wp2_with fail
  refine (HK0.out w1 _ V_x.at_).mono ?_
  rintro e wx1 ⟨rfl, hb⟩
  have F := Hd (F.out.below hb)
  clear l_x a_x b_x c_x d_x e_x f_x g_x h_x V_x
  clear hb
  obtain ⟨-, V_y, -⟩ := F.out.h
  obtain ⟨l_y, a_y, b_y, c_y, d_y, e_y, f_y, g_y, h_y⟩ := V_y.oct.facts
  go_wp2_with fail
  refine (HK1.out wx1 _ V_y.at_).mono ?_
  rintro e wx2 ⟨rfl, hb⟩
  have F := Hd (F.out.below hb)
  clear l_y a_y b_y c_y d_y e_y f_y g_y h_y V_y
  clear hb
  obtain ⟨-, -, V_z, -⟩ := F.out.h
  obtain ⟨l_z, a_z, b_z, c_z, d_z, e_z, f_z, g_z, h_z⟩ := V_z.oct.facts
  go_wp2_with fail
  refine (HK2.out wx2 _ V_z.at_).mono ?_
  rintro e wx3 ⟨rfl, hb⟩
  have F := Hd (F.out.below hb)
  clear l_z a_z b_z c_z d_z e_z f_z g_z h_z V_z
  clear hb
  have ha := (Below.refl wx3.heap.size wx3).alloc (Nat.le_refl _) (.cells #[.bool true] 4)
  have F := Hd ((F.out.below ha).add (Cell1.mk (Blk.new wx3 4 #[.bool true])) (fun _ _ => Cell1.below))
  clear ha
  go_upto_region 4 with fail
  obtain ⟨wo, E⟩ : ∃ W, W = wx3.alloc (.cells #[.bool true] 4) := ⟨_, rfl⟩
  obtain ⟨bo, hq⟩ : ∃ q, q = wx3.heap.size := ⟨_, rfl⟩
  rw [← E, ← hq] at F ⊢
  clear E hq
  go_wp2_with fail
  refine wp_region_free [.val (.agg #[.bool (decide (n < 0)), .slice Ax1 (natL n.natAbs).length cx1, .bool (decide (d < 0)), .slice Ax2 (natL d.natAbs).length cx2, .bool (decide (m < 0)), .slice Ax3 (natL m.natAbs).length cx3, .bool (decide (f < 0)), .slice Ax4 (natL f.natAbs).length cx4]) [], .val (.agg #[.bool (decide (p < 0)), .slice Ay1 (natL p.natAbs).length cy1, .bool (decide (q < 0)), .slice Ay2 (natL q.natAbs).length cy2, .bool (decide (r < 0)), .slice Ay3 (natL r.natAbs).length cy3, .bool (decide (s < 0)), .slice Ay4 (natL s.natAbs).length cy4]) [], .any false (fun u V => GaussIn V u sa1 sa2 sa3 sa4) [], .val (.agg #[.bool (decide (a < 0)), .slice Az1 (natL a.natAbs).length cz1, .bool (decide (b < 0)), .slice Az2 (natL b.natAbs).length cz2, .bool (decide (c < 0)), .slice Az3 (natL c.natAbs).length cz3, .bool (decide (l < 0)), .slice Az4 (natL l.natAbs).length cz4]) [], .any false (fun u V => GaussIn V u ab1 ab2 ab3 ab4) [2], .new 28 8, .put 28 8 5 4 []] wo.heap.size wo [28] (fun _ _ => False) _ mixedOrders2 (Nat.le_refl _) (Below.refl _ _) (KeptV.refl _ _ _) rfl (by kernel_rfl) (by kernel_rfl) (by kernel_rfl) (by kernel_rfl) (by kernel_rfl) (by kernel_rfl) (by kernel_rfl) (by kernel_rfl) rfl (by simp [oldsF]) ?_ ?_ ?_ ?_
  · simp only [StableF, and_true]
    exact ⟨fun u V V' h k => h.kept k (by decide), fun u V V' h k => h.kept k (by decide)⟩
  · simp only [OldsF]
  · simp (maxSteps := 4000000) [StepsF, DepF, freeAct, fill, pairs]
    repeat' (first | apply And.intro | (intro (u : Value)) | (intro (u : Nat)))
    all_goals try exact ⟨_, _, _, rfl, rfl, rfl, rfl, gaussInfo⟩
    all_goals try exact allocGauss rfl
    all_goals first
    | (intro V hV hK
       obtain ⟨CK, V_x, V_y, V_z, -⟩ := (F.out.below hV).h
       obtain ⟨l_x, a_x, b_x, c_x, d_x, e_x, f_x, g_x, h_x⟩ := V_x.oct.facts
       obtain ⟨l_y, a_y, b_y, c_y, d_y, e_y, f_y, g_y, h_y⟩ := V_y.oct.facts
       obtain ⟨l_z, a_z, b_z, c_z, d_z, e_z, f_z, g_z, h_z⟩ := V_z.oct.facts
       clear hV hK
       go_simp
       first
       | exact Below.refl _ _
       | ((with_reducible refine (HC1.out V _ _ _ V_x.at_ V_y.at_ CK).mono ?_); rintro e w' ⟨v, rfl, hv, hb⟩; exact ⟨hv.in_, hb⟩))
    | (intro V hV hK h1
       obtain ⟨CK, V_x, V_y, V_z, -⟩ := (F.out.below hV).h
       obtain ⟨l_x, a_x, b_x, c_x, d_x, e_x, f_x, g_x, h_x⟩ := V_x.oct.facts
       obtain ⟨l_y, a_y, b_y, c_y, d_y, e_y, f_y, g_y, h_y⟩ := V_y.oct.facts
       obtain ⟨l_z, a_z, b_z, c_z, d_z, e_z, f_z, g_z, h_z⟩ := V_z.oct.facts
       clear hV hK
       go_simp
       ((with_reducible refine (HC2.out V _ _ _ h1.at_ V_z.at_ CK).mono ?_); rintro e w' ⟨v, rfl, hv, hb⟩; exact ⟨hv.in_, hb⟩))
    | exact fun _ _ _ (h : GaussIn _ _ _ _ _ _) => h.cells
    | exact fun _ _ _ (h : GaussIn _ _ _ _ _ _) _ => h.cells
  · simp [EndF, FactsF, freeAct, fill, pairs]
    intro u1 u2 b_va hb_va V4 hV hK h1 h2 p_va _ _ _
    have hg := h2.at_
    obtain ⟨A4a, c4a, A4b, c4b, A4c, c4c, A4d, c4d, rfl, -⟩ := h2.form
    have F := Hd ((F.out.below hV).add (GV.mk (show Oct V4 b_va 28 _ _ _ _ _ _ _ _ from ⟨p_va⟩) hg) (fun _ _ => GV.below))
    clear hV hK hg h1 h2 p_va hb_va
    go_wp2_with fail
    refine wp_region_free [.val (.agg #[.bool (decide (a < 0)), .slice Az1 (natL a.natAbs).length cz1, .bool (decide (b < 0)), .slice Az2 (natL b.natAbs).length cz2, .bool (decide (c < 0)), .slice Az3 (natL c.natAbs).length cz3, .bool (decide (l < 0)), .slice Az4 (natL l.natAbs).length cz4]) [], .val (.agg #[.bool (decide (p < 0)), .slice Ay1 (natL p.natAbs).length cy1, .bool (decide (q < 0)), .slice Ay2 (natL q.natAbs).length cy2, .bool (decide (r < 0)), .slice Ay3 (natL r.natAbs).length cy3, .bool (decide (s < 0)), .slice Ay4 (natL s.natAbs).length cy4]) [], .val (.agg #[.bool (decide (n < 0)), .slice Ax1 (natL n.natAbs).length cx1, .bool (decide (d < 0)), .slice Ax2 (natL d.natAbs).length cx2, .bool (decide (m < 0)), .slice Ax3 (natL m.natAbs).length cx3, .bool (decide (f < 0)), .slice Ax4 (natL f.natAbs).length cx4]) [], .any false (fun u V => GaussIn V u sa1 sa2 sa3 sa4) [], .any false (fun u V => GaussIn V u ab1 ab2 ab3 ab4) [3], .new 28 8, .put 28 8 5 4 []] V4.heap.size V4 [28] (fun _ _ => False) _ mixedOrders2 (Nat.le_refl _) (Below.refl _ _) (KeptV.refl _ _ _) rfl (by kernel_rfl) (by kernel_rfl) (by kernel_rfl) (by kernel_rfl) (by kernel_rfl) (by kernel_rfl) (by kernel_rfl) (by kernel_rfl) rfl (by simp [oldsF]) ?_ ?_ ?_ ?_
    · simp only [StableF, and_true]
      exact ⟨fun u V V' h k => h.kept k (by decide), fun u V V' h k => h.kept k (by decide)⟩
    · simp only [OldsF]
    · simp (maxSteps := 4000000) [StepsF, DepF, freeAct, fill, pairs]
      repeat' (first | apply And.intro | (intro (u : Value)) | (intro (u : Nat)))
      all_goals try exact ⟨_, _, _, rfl, rfl, rfl, rfl, gaussInfo⟩
      all_goals try exact allocGauss rfl
      all_goals first
      | (intro V hV hK
         obtain ⟨-, CK, V_x, V_y, V_z, -⟩ := (F.out.below hV).h
         obtain ⟨l_x, a_x, b_x, c_x, d_x, e_x, f_x, g_x, h_x⟩ := V_x.oct.facts
         obtain ⟨l_y, a_y, b_y, c_y, d_y, e_y, f_y, g_y, h_y⟩ := V_y.oct.facts
         obtain ⟨l_z, a_z, b_z, c_z, d_z, e_z, f_z, g_z, h_z⟩ := V_z.oct.facts
         clear hV hK
         go_simp
         first
         | exact Below.refl _ _
         | ((with_reducible refine (HC3.out V _ _ _ V_y.at_ V_x.at_ CK).mono ?_); rintro e w' ⟨v, rfl, hv, hb⟩; exact ⟨hv.in_, hb⟩))
      | (intro V hV hK h1
         obtain ⟨-, CK, V_x, V_y, V_z, -⟩ := (F.out.below hV).h
         obtain ⟨l_x, a_x, b_x, c_x, d_x, e_x, f_x, g_x, h_x⟩ := V_x.oct.facts
         obtain ⟨l_y, a_y, b_y, c_y, d_y, e_y, f_y, g_y, h_y⟩ := V_y.oct.facts
         obtain ⟨l_z, a_z, b_z, c_z, d_z, e_z, f_z, g_z, h_z⟩ := V_z.oct.facts
         clear hV hK
         go_simp
         ((with_reducible refine (HC4.out V _ _ _ V_z.at_ h1.at_ CK).mono ?_); rintro e w' ⟨v, rfl, hv, hb⟩; exact ⟨hv.in_, hb⟩))
      | exact fun _ _ _ (h : GaussIn _ _ _ _ _ _) => h.cells
      | exact fun _ _ _ (h : GaussIn _ _ _ _ _ _) _ => h.cells
    · simp [EndF, FactsF, freeAct, fill, pairs]
      intro u1 u2 b_vb hb_vb V5 hV hK h1 h2 p_vb _ _ _
      have hg := h2.at_
      obtain ⟨A5a, c5a, A5b, c5b, A5c, c5c, A5d, c5d, rfl, -⟩ := h2.form
      have F := Hd ((F.out.below hV).add (GV.mk (show Oct V5 b_vb 28 _ _ _ _ _ _ _ _ from ⟨p_vb⟩) hg) (fun _ _ => GV.below))
      clear hV hK hg h1 h2 p_vb hb_vb
      go_wp2_with fail
      refine wp_region_free [.val (.agg #[.bool (decide (n < 0)), .slice Ax1 (natL n.natAbs).length cx1, .bool (decide (d < 0)), .slice Ax2 (natL d.natAbs).length cx2, .bool (decide (m < 0)), .slice Ax3 (natL m.natAbs).length cx3, .bool (decide (f < 0)), .slice Ax4 (natL f.natAbs).length cx4]) [], .val (.agg #[.bool (decide (p < 0)), .slice Ay1 (natL p.natAbs).length cy1, .bool (decide (q < 0)), .slice Ay2 (natL q.natAbs).length cy2, .bool (decide (r < 0)), .slice Ay3 (natL r.natAbs).length cy3, .bool (decide (s < 0)), .slice Ay4 (natL s.natAbs).length cy4]) [], .any false (fun u V => GaussIn V u tc1 tc2 tc3 tc4) [], .val (.agg #[.bool (decide (a < 0)), .slice Az1 (natL a.natAbs).length cz1, .bool (decide (b < 0)), .slice Az2 (natL b.natAbs).length cz2, .bool (decide (c < 0)), .slice Az3 (natL c.natAbs).length cz3, .bool (decide (l < 0)), .slice Az4 (natL l.natAbs).length cz4]) [], .any false (fun u V => GaussIn V u cd1 cd2 cd3 cd4) [2], .new 28 8, .put 28 8 5 4 []] V5.heap.size V5 [28] (fun _ _ => False) _ mixedOrders2 (Nat.le_refl _) (Below.refl _ _) (KeptV.refl _ _ _) rfl (by kernel_rfl) (by kernel_rfl) (by kernel_rfl) (by kernel_rfl) (by kernel_rfl) (by kernel_rfl) (by kernel_rfl) (by kernel_rfl) rfl (by simp [oldsF]) ?_ ?_ ?_ ?_
      · simp only [StableF, and_true]
        exact ⟨fun u V V' h k => h.kept k (by decide), fun u V V' h k => h.kept k (by decide)⟩
      · simp only [OldsF]
      · simp (maxSteps := 4000000) [StepsF, DepF, freeAct, fill, pairs]
        repeat' (first | apply And.intro | (intro (u : Value)) | (intro (u : Nat)))
        all_goals try exact ⟨_, _, _, rfl, rfl, rfl, rfl, gaussInfo⟩
        all_goals try exact allocGauss rfl
        all_goals first
        | (intro V hV hK
           obtain ⟨-, -, CK, V_x, V_y, V_z, -⟩ := (F.out.below hV).h
           obtain ⟨l_x, a_x, b_x, c_x, d_x, e_x, f_x, g_x, h_x⟩ := V_x.oct.facts
           obtain ⟨l_y, a_y, b_y, c_y, d_y, e_y, f_y, g_y, h_y⟩ := V_y.oct.facts
           obtain ⟨l_z, a_z, b_z, c_z, d_z, e_z, f_z, g_z, h_z⟩ := V_z.oct.facts
           clear hV hK
           go_simp
           first
           | exact Below.refl _ _
           | ((with_reducible refine (HC5.out V _ _ _ V_x.at_ V_y.at_ CK).mono ?_); rintro e w' ⟨v, rfl, hv, hb⟩; exact ⟨hv.in_, hb⟩))
        | (intro V hV hK h1
           obtain ⟨-, -, CK, V_x, V_y, V_z, -⟩ := (F.out.below hV).h
           obtain ⟨l_x, a_x, b_x, c_x, d_x, e_x, f_x, g_x, h_x⟩ := V_x.oct.facts
           obtain ⟨l_y, a_y, b_y, c_y, d_y, e_y, f_y, g_y, h_y⟩ := V_y.oct.facts
           obtain ⟨l_z, a_z, b_z, c_z, d_z, e_z, f_z, g_z, h_z⟩ := V_z.oct.facts
           clear hV hK
           go_simp
           ((with_reducible refine (HC6.out V _ _ _ h1.at_ V_z.at_ CK).mono ?_); rintro e w' ⟨v, rfl, hv, hb⟩; exact ⟨hv.in_, hb⟩))
        | exact fun _ _ _ (h : GaussIn _ _ _ _ _ _) => h.cells
        | exact fun _ _ _ (h : GaussIn _ _ _ _ _ _) _ => h.cells
      · simp [EndF, FactsF, freeAct, fill, pairs]
        intro u1 u2 b_vc hb_vc V6 hV hK h1 h2 p_vc _ _ _
        have hg := h2.at_
        obtain ⟨A6a, c6a, A6b, c6b, A6c, c6c, A6d, c6d, rfl, -⟩ := h2.form
        have F := Hd ((F.out.below hV).add (GV.mk (show Oct V6 b_vc 28 _ _ _ _ _ _ _ _ from ⟨p_vc⟩) hg) (fun _ _ => GV.below))
        clear hV hK hg h1 h2 p_vc hb_vc
        go_wp2_with fail
        refine wp_region_free [.val (.agg #[.bool (decide (a < 0)), .slice Az1 (natL a.natAbs).length cz1, .bool (decide (b < 0)), .slice Az2 (natL b.natAbs).length cz2, .bool (decide (c < 0)), .slice Az3 (natL c.natAbs).length cz3, .bool (decide (l < 0)), .slice Az4 (natL l.natAbs).length cz4]) [], .val (.agg #[.bool (decide (p < 0)), .slice Ay1 (natL p.natAbs).length cy1, .bool (decide (q < 0)), .slice Ay2 (natL q.natAbs).length cy2, .bool (decide (r < 0)), .slice Ay3 (natL r.natAbs).length cy3, .bool (decide (s < 0)), .slice Ay4 (natL s.natAbs).length cy4]) [], .val (.agg #[.bool (decide (n < 0)), .slice Ax1 (natL n.natAbs).length cx1, .bool (decide (d < 0)), .slice Ax2 (natL d.natAbs).length cx2, .bool (decide (m < 0)), .slice Ax3 (natL m.natAbs).length cx3, .bool (decide (f < 0)), .slice Ax4 (natL f.natAbs).length cx4]) [], .any false (fun u V => GaussIn V u tc1 tc2 tc3 tc4) [], .any false (fun u V => GaussIn V u cd1 cd2 cd3 cd4) [3], .new 28 8, .put 28 8 5 4 []] V6.heap.size V6 [28] (fun _ _ => False) _ mixedOrders2 (Nat.le_refl _) (Below.refl _ _) (KeptV.refl _ _ _) rfl (by kernel_rfl) (by kernel_rfl) (by kernel_rfl) (by kernel_rfl) (by kernel_rfl) (by kernel_rfl) (by kernel_rfl) (by kernel_rfl) rfl (by simp [oldsF]) ?_ ?_ ?_ ?_
        · simp only [StableF, and_true]
          exact ⟨fun u V V' h k => h.kept k (by decide), fun u V V' h k => h.kept k (by decide)⟩
        · simp only [OldsF]
        · simp (maxSteps := 4000000) [StepsF, DepF, freeAct, fill, pairs]
          repeat' (first | apply And.intro | (intro (u : Value)) | (intro (u : Nat)))
          all_goals try exact ⟨_, _, _, rfl, rfl, rfl, rfl, gaussInfo⟩
          all_goals try exact allocGauss rfl
          all_goals first
          | (intro V hV hK
             obtain ⟨-, -, -, CK, V_x, V_y, V_z, -⟩ := (F.out.below hV).h
             obtain ⟨l_x, a_x, b_x, c_x, d_x, e_x, f_x, g_x, h_x⟩ := V_x.oct.facts
             obtain ⟨l_y, a_y, b_y, c_y, d_y, e_y, f_y, g_y, h_y⟩ := V_y.oct.facts
             obtain ⟨l_z, a_z, b_z, c_z, d_z, e_z, f_z, g_z, h_z⟩ := V_z.oct.facts
             clear hV hK
             go_simp
             first
             | exact Below.refl _ _
             | ((with_reducible refine (HC7.out V _ _ _ V_y.at_ V_x.at_ CK).mono ?_); rintro e w' ⟨v, rfl, hv, hb⟩; exact ⟨hv.in_, hb⟩))
          | (intro V hV hK h1
             obtain ⟨-, -, -, CK, V_x, V_y, V_z, -⟩ := (F.out.below hV).h
             obtain ⟨l_x, a_x, b_x, c_x, d_x, e_x, f_x, g_x, h_x⟩ := V_x.oct.facts
             obtain ⟨l_y, a_y, b_y, c_y, d_y, e_y, f_y, g_y, h_y⟩ := V_y.oct.facts
             obtain ⟨l_z, a_z, b_z, c_z, d_z, e_z, f_z, g_z, h_z⟩ := V_z.oct.facts
             clear hV hK
             go_simp
             ((with_reducible refine (HC8.out V _ _ _ V_z.at_ h1.at_ CK).mono ?_); rintro e w' ⟨v, rfl, hv, hb⟩; exact ⟨hv.in_, hb⟩))
          | exact fun _ _ _ (h : GaussIn _ _ _ _ _ _) => h.cells
          | exact fun _ _ _ (h : GaussIn _ _ _ _ _ _) _ => h.cells
        · simp [EndF, FactsF, freeAct, fill, pairs]
          intro u1 u2 b_vd hb_vd V7 hV hK h1 h2 p_vd _ _ _
          have hg := h2.at_
          obtain ⟨A7a, c7a, A7b, c7b, A7c, c7c, A7d, c7d, rfl, -⟩ := h2.form
          have F := Hd ((F.out.below hV).add (GV.mk (show Oct V7 b_vd 28 _ _ _ _ _ _ _ _ from ⟨p_vd⟩) hg) (fun _ _ => GV.below))
          clear hV hK hg h1 h2 p_vd hb_vd
          go_wp2_with fail
          refine wp_region_free [.val (.agg #[.bool (decide (n < 0)), .slice Ax1 (natL n.natAbs).length cx1, .bool (decide (d < 0)), .slice Ax2 (natL d.natAbs).length cx2, .bool (decide (m < 0)), .slice Ax3 (natL m.natAbs).length cx3, .bool (decide (f < 0)), .slice Ax4 (natL f.natAbs).length cx4]) [], .val (.agg #[.bool (decide (p < 0)), .slice Ay1 (natL p.natAbs).length cy1, .bool (decide (q < 0)), .slice Ay2 (natL q.natAbs).length cy2, .bool (decide (r < 0)), .slice Ay3 (natL r.natAbs).length cy3, .bool (decide (s < 0)), .slice Ay4 (natL s.natAbs).length cy4]) [], .val (.agg #[.bool (decide (a < 0)), .slice Az1 (natL a.natAbs).length cz1, .bool (decide (b < 0)), .slice Az2 (natL b.natAbs).length cz2, .bool (decide (c < 0)), .slice Az3 (natL c.natAbs).length cz3, .bool (decide (l < 0)), .slice Az4 (natL l.natAbs).length cz4]) [], .any false (fun u V => GaussIn V u gd1 gd2 gd3 gd4) [], .any false (fun u V => GaussIn V u qe1 qe2 qe3 qe4) [3], .new 28 8, .put 28 8 5 4 []] V7.heap.size V7 [28] (fun _ _ => False) _ mixedOrders2 (Nat.le_refl _) (Below.refl _ _) (KeptV.refl _ _ _) rfl (by kernel_rfl) (by kernel_rfl) (by kernel_rfl) (by kernel_rfl) (by kernel_rfl) (by kernel_rfl) (by kernel_rfl) (by kernel_rfl) rfl (by simp [oldsF]) ?_ ?_ ?_ ?_
          · simp only [StableF, and_true]
            exact ⟨fun u V V' h k => h.kept k (by decide), fun u V V' h k => h.kept k (by decide)⟩
          · simp only [OldsF]
          · simp (maxSteps := 4000000) [StepsF, DepF, freeAct, fill, pairs]
            repeat' (first | apply And.intro | (intro (u : Value)) | (intro (u : Nat)))
            all_goals try exact ⟨_, _, _, rfl, rfl, rfl, rfl, gaussInfo⟩
            all_goals try exact allocGauss rfl
            all_goals first
            | (intro V hV hK
               obtain ⟨-, -, -, -, CK, V_x, V_y, V_z, -⟩ := (F.out.below hV).h
               obtain ⟨l_x, a_x, b_x, c_x, d_x, e_x, f_x, g_x, h_x⟩ := V_x.oct.facts
               obtain ⟨l_y, a_y, b_y, c_y, d_y, e_y, f_y, g_y, h_y⟩ := V_y.oct.facts
               obtain ⟨l_z, a_z, b_z, c_z, d_z, e_z, f_z, g_z, h_z⟩ := V_z.oct.facts
               clear hV hK
               go_simp
               first
               | exact Below.refl _ _
               | ((with_reducible refine (HC9.out V _ _ _ V_y.at_ V_z.at_ CK).mono ?_); rintro e w' ⟨v, rfl, hv, hb⟩; exact ⟨hv.in_, hb⟩))
            | (intro V hV hK h1
               obtain ⟨-, -, -, -, CK, V_x, V_y, V_z, -⟩ := (F.out.below hV).h
               obtain ⟨l_x, a_x, b_x, c_x, d_x, e_x, f_x, g_x, h_x⟩ := V_x.oct.facts
               obtain ⟨l_y, a_y, b_y, c_y, d_y, e_y, f_y, g_y, h_y⟩ := V_y.oct.facts
               obtain ⟨l_z, a_z, b_z, c_z, d_z, e_z, f_z, g_z, h_z⟩ := V_z.oct.facts
               clear hV hK
               go_simp
               ((with_reducible refine (HC10.out V _ _ _ V_x.at_ h1.at_ CK).mono ?_); rintro e w' ⟨v, rfl, hv, hb⟩; exact ⟨hv.in_, hb⟩))
            | exact fun _ _ _ (h : GaussIn _ _ _ _ _ _) => h.cells
            | exact fun _ _ _ (h : GaussIn _ _ _ _ _ _) _ => h.cells
          · simp [EndF, FactsF, freeAct, fill, pairs]
            intro u1 u2 b_vp hb_vp V8 hV hK h1 h2 p_vp _ _ _
            have hg := h2.at_
            obtain ⟨A8a, c8a, A8b, c8b, A8c, c8c, A8d, c8d, rfl, -⟩ := h2.form
            have F := Hd ((F.out.below hV).add (GV.mk (show Oct V8 b_vp 28 _ _ _ _ _ _ _ _ from ⟨p_vp⟩) hg) (fun _ _ => GV.below))
            clear hV hK hg h1 h2 p_vp hb_vp
            go_wp2_with fail
            refine wp_region_free [.val (.agg #[.bool (decide (n < 0)), .slice Ax1 (natL n.natAbs).length cx1, .bool (decide (d < 0)), .slice Ax2 (natL d.natAbs).length cx2, .bool (decide (m < 0)), .slice Ax3 (natL m.natAbs).length cx3, .bool (decide (f < 0)), .slice Ax4 (natL f.natAbs).length cx4]) [], .val (.agg #[.bool (decide (p < 0)), .slice Ay1 (natL p.natAbs).length cy1, .bool (decide (q < 0)), .slice Ay2 (natL q.natAbs).length cy2, .bool (decide (r < 0)), .slice Ay3 (natL r.natAbs).length cy3, .bool (decide (s < 0)), .slice Ay4 (natL s.natAbs).length cy4]) [], .any false (fun u V => GaussIn V u tc1 tc2 tc3 tc4) [], .val (.agg #[.bool (decide (n < 0)), .slice Ax1 (natL n.natAbs).length cx1, .bool (decide (d < 0)), .slice Ax2 (natL d.natAbs).length cx2, .bool (decide (m < 0)), .slice Ax3 (natL m.natAbs).length cx3, .bool (decide (f < 0)), .slice Ax4 (natL f.natAbs).length cx4]) [], .val (.agg #[.bool (decide (a < 0)), .slice Az1 (natL a.natAbs).length cz1, .bool (decide (b < 0)), .slice Az2 (natL b.natAbs).length cz2, .bool (decide (c < 0)), .slice Az3 (natL c.natAbs).length cz3, .bool (decide (l < 0)), .slice Az4 (natL l.natAbs).length cz4]) [], .any false (fun u V => GaussIn V u hf1 hf2 hf3 hf4) [], .any false (fun u V => GaussIn V u qe1 qe2 qe3 qe4) [2, 5], .new 28 8, .put 28 8 7 6 []] V8.heap.size V8 [28] (fun _ _ => False) _ mixedOrders2 (Nat.le_refl _) (Below.refl _ _) (KeptV.refl _ _ _) rfl (by kernel_rfl) (by kernel_rfl) (by kernel_rfl) (by kernel_rfl) (by kernel_rfl) (by kernel_rfl) (by kernel_rfl) (by kernel_rfl) rfl (by simp [oldsF]) ?_ ?_ ?_ ?_
            · simp only [StableF, and_true]
              exact ⟨fun u V V' h k => h.kept k (by decide), fun u V V' h k => h.kept k (by decide), fun u V V' h k => h.kept k (by decide)⟩
            · simp only [OldsF]
            · simp (maxSteps := 4000000) [StepsF, DepF, freeAct, fill, pairs]
              repeat' (first | apply And.intro | (intro (u : Value)) | (intro (u : Nat)))
              all_goals try exact ⟨_, _, _, rfl, rfl, rfl, rfl, gaussInfo⟩
              all_goals try exact allocGauss rfl
              all_goals first
              | (intro V hV hK
                 obtain ⟨-, -, -, -, -, CK, V_x, V_y, V_z, -⟩ := (F.out.below hV).h
                 obtain ⟨l_x, a_x, b_x, c_x, d_x, e_x, f_x, g_x, h_x⟩ := V_x.oct.facts
                 obtain ⟨l_y, a_y, b_y, c_y, d_y, e_y, f_y, g_y, h_y⟩ := V_y.oct.facts
                 obtain ⟨l_z, a_z, b_z, c_z, d_z, e_z, f_z, g_z, h_z⟩ := V_z.oct.facts
                 clear hV hK
                 go_simp
                 first
                 | exact Below.refl _ _
                 | ((with_reducible refine (HC5.out V _ _ _ V_x.at_ V_y.at_ CK).mono ?_); rintro e w' ⟨v, rfl, hv, hb⟩; exact ⟨hv.in_, hb⟩)
                 | ((with_reducible refine (HC11.out V _ _ _ V_x.at_ V_z.at_ CK).mono ?_); rintro e w' ⟨v, rfl, hv, hb⟩; exact ⟨hv.in_, hb⟩))
              | (intro V hV hK h1 h2
                 obtain ⟨-, -, -, -, -, CK, V_x, V_y, V_z, -⟩ := (F.out.below hV).h
                 obtain ⟨l_x, a_x, b_x, c_x, d_x, e_x, f_x, g_x, h_x⟩ := V_x.oct.facts
                 obtain ⟨l_y, a_y, b_y, c_y, d_y, e_y, f_y, g_y, h_y⟩ := V_y.oct.facts
                 obtain ⟨l_z, a_z, b_z, c_z, d_z, e_z, f_z, g_z, h_z⟩ := V_z.oct.facts
                 clear hV hK
                 go_simp
                 ((with_reducible refine (HC12.out V _ _ _ h1.at_ h2.at_ CK).mono ?_); rintro e w' ⟨v, rfl, hv, hb⟩; exact ⟨hv.in_, hb⟩))
              | exact fun _ _ _ (h : GaussIn _ _ _ _ _ _) => h.cells
              | exact fun _ _ _ (h : GaussIn _ _ _ _ _ _) _ => h.cells
            · simp [EndF, FactsF, freeAct, fill, pairs]
              intro u1 u2 u3 b_vq hb_vq V9 hV hK h1 h2 h3 p_vq _ _ _
              have hg := h3.at_
              obtain ⟨A9a, c9a, A9b, c9b, A9c, c9c, A9d, c9d, rfl, -⟩ := h3.form
              have F := Hd ((F.out.below hV).add (GV.mk (show Oct V9 b_vq 28 _ _ _ _ _ _ _ _ from ⟨p_vq⟩) hg) (fun _ _ => GV.below))
              clear hV hK hg h1 h2 h3 p_vq hb_vq
              obtain ⟨-, -, -, -, -, V_va, -, -, -, V_z, -⟩ := F.out.h
              obtain ⟨l_va, a_va, b_va, c_va, d_va, e_va, f_va, g_va, h_va⟩ := V_va.oct.facts
              obtain ⟨l_z, a_z, b_z, c_z, d_z, e_z, f_z, g_z, h_z⟩ := V_z.oct.facts
              go_wp2_with fail
              refine (HC13.out V9 _ _ V_va.at_ V_z.at_).mono ?_
              rintro e wx10 ⟨v, rfl, hI, hb⟩
              obtain ⟨A10a, c10a, A10b, c10b, A10c, c10c, A10d, c10d, rfl, -⟩ := hI.form
              have hn := GV.new 28 (hI.at_)
              have ha := (Below.refl wx10.heap.size wx10).alloc (Nat.le_refl _) (.cells #[.bool (decide (sa1 < 0)), .slice A10a (natL sa1.natAbs).length c10a, .bool (decide (sa2 < 0)), .slice A10b (natL sa2.natAbs).length c10b, .bool (decide (sa3 < 0)), .slice A10c (natL sa3.natAbs).length c10c, .bool (decide (sa4 < 0)), .slice A10d (natL sa4.natAbs).length c10d] 28)
              have F := Hd (((F.out.below hb).below ha).add hn (fun _ _ => GV.below))
              clear l_va a_va b_va c_va d_va e_va f_va g_va h_va l_z a_z b_z c_z d_z e_z f_z g_z h_z V_va V_z
              clear hI hb hn ha
              go_upto_region 11 with fail
              obtain ⟨wy10, E⟩ : ∃ W, W = wx10.alloc (.cells #[.bool (decide (sa1 < 0)), .slice A10a (natL sa1.natAbs).length c10a, .bool (decide (sa2 < 0)), .slice A10b (natL sa2.natAbs).length c10b, .bool (decide (sa3 < 0)), .slice A10c (natL sa3.natAbs).length c10c, .bool (decide (sa4 < 0)), .slice A10d (natL sa4.natAbs).length c10d] 28) := ⟨_, rfl⟩
              obtain ⟨q10, hq⟩ : ∃ q, q = wx10.heap.size := ⟨_, rfl⟩
              rw [← E, ← hq] at F ⊢
              clear E hq
              go_wp2_with fail
              refine wp_region_free [.val (.bool true) [], .val (.bool false) [], .val (.bool false) [], .val (.int .i64 0) [], .val (.bool false) [], .val (.bool false) [], .val (.bool false) [], .val (.agg #[.bool (decide (ab1 < 0)), .slice A4a (natL ab1.natAbs).length c4a, .bool (decide (ab2 < 0)), .slice A4b (natL ab2.natAbs).length c4b, .bool (decide (ab3 < 0)), .slice A4c (natL ab3.natAbs).length c4c, .bool (decide (ab4 < 0)), .slice A4d (natL ab4.natAbs).length c4d]) [], .val (.agg #[.bool (decide (ab1 < 0)), .slice A5a (natL ab1.natAbs).length c5a, .bool (decide (ab2 < 0)), .slice A5b (natL ab2.natAbs).length c5b, .bool (decide (ab3 < 0)), .slice A5c (natL ab3.natAbs).length c5c, .bool (decide (ab4 < 0)), .slice A5d (natL ab4.natAbs).length c5d]) [], .val (.bool true) [], .val (.bool false) [], .val (.bool false) [], .val (.bool false) [], .val (.agg #[.bool (decide (cd1 < 0)), .slice A6a (natL cd1.natAbs).length c6a, .bool (decide (cd2 < 0)), .slice A6b (natL cd2.natAbs).length c6b, .bool (decide (cd3 < 0)), .slice A6c (natL cd3.natAbs).length c6c, .bool (decide (cd4 < 0)), .slice A6d (natL cd4.natAbs).length c6d]) [], .val (.agg #[.bool (decide (cd1 < 0)), .slice A7a (natL cd1.natAbs).length c7a, .bool (decide (cd2 < 0)), .slice A7b (natL cd2.natAbs).length c7b, .bool (decide (cd3 < 0)), .slice A7c (natL cd3.natAbs).length c7c, .bool (decide (cd4 < 0)), .slice A7d (natL cd4.natAbs).length c7d]) [], .val (.bool true) [], .val (.bool false) [], .val (.bool false) [], .val (.bool false) [], .val (.agg #[.bool (decide (qe1 < 0)), .slice A8a (natL qe1.natAbs).length c8a, .bool (decide (qe2 < 0)), .slice A8b (natL qe2.natAbs).length c8b, .bool (decide (qe3 < 0)), .slice A8c (natL qe3.natAbs).length c8c, .bool (decide (qe4 < 0)), .slice A8d (natL qe4.natAbs).length c8d]) [], .val (.agg #[.bool (decide (qe1 < 0)), .slice A9a (natL qe1.natAbs).length c9a, .bool (decide (qe2 < 0)), .slice A9b (natL qe2.natAbs).length c9b, .bool (decide (qe3 < 0)), .slice A9c (natL qe3.natAbs).length c9c, .bool (decide (qe4 < 0)), .slice A9d (natL qe4.natAbs).length c9d]) [], .val (.bool true) [], .val (.bool false) [], .val (.bool false) [], .val (.bool false) [], .val (.agg #[.bool (decide (sa1 < 0)), .slice A10a (natL sa1.natAbs).length c10a, .bool (decide (sa2 < 0)), .slice A10b (natL sa2.natAbs).length c10b, .bool (decide (sa3 < 0)), .slice A10c (natL sa3.natAbs).length c10c, .bool (decide (sa4 < 0)), .slice A10d (natL sa4.natAbs).length c10d]) [], .val (.agg #[.bool (decide (n < 0)), .slice Ax1 (natL n.natAbs).length cx1, .bool (decide (d < 0)), .slice Ax2 (natL d.natAbs).length cx2, .bool (decide (m < 0)), .slice Ax3 (natL m.natAbs).length cx3, .bool (decide (f < 0)), .slice Ax4 (natL f.natAbs).length cx4]) [], .val (.agg #[.bool (decide (p < 0)), .slice Ay1 (natL p.natAbs).length cy1, .bool (decide (q < 0)), .slice Ay2 (natL q.natAbs).length cy2, .bool (decide (r < 0)), .slice Ay3 (natL r.natAbs).length cy3, .bool (decide (s < 0)), .slice Ay4 (natL s.natAbs).length cy4]) [], .any false (fun u V => GaussIn V u sa1 sa2 sa3 sa4) [], .val (.bool true) [28], .val (.bool false) [], .val (.bool false) []] wy10.heap.size wy10 [] (fun _ _ => False) _ mixedOrders2 (Nat.le_refl _) (Below.refl _ _) (KeptV.refl _ _ _) rfl (by kernel_rfl) (by kernel_rfl) (by kernel_rfl) (by kernel_rfl) (by kernel_rfl) (by kernel_rfl) (by kernel_rfl) (by kernel_rfl) rfl (by simp [oldsF]) ?_ ?_ ?_ ?_
              · simp only [StableF, and_true]
                exact fun u V V' h k => h.kept k (by decide)
              · simp only [OldsF]
              · simp (maxSteps := 4000000) [StepsF, DepF, freeAct, fill, pairs]
                repeat' (first | apply And.intro | (intro (u : Value)) | (intro (u : Nat)))
                all_goals first
                | (intro V hV hK
                   obtain ⟨V_vl, V_vq, V_vp, V_vd, V_vc, V_vb, V_va, CK, V_x, V_y, -⟩ := (F.out.below hV).h
                   obtain ⟨l_x, a_x, b_x, c_x, d_x, e_x, f_x, g_x, h_x⟩ := V_x.oct.facts
                   obtain ⟨l_y, a_y, b_y, c_y, d_y, e_y, f_y, g_y, h_y⟩ := V_y.oct.facts
                   obtain ⟨l_va, a_va, b_va, c_va, d_va, e_va, f_va, g_va, h_va⟩ := V_va.oct.facts
                   obtain ⟨l_vb, a_vb, b_vb, c_vb, d_vb, e_vb, f_vb, g_vb, h_vb⟩ := V_vb.oct.facts
                   obtain ⟨l_vc, a_vc, b_vc, c_vc, d_vc, e_vc, f_vc, g_vc, h_vc⟩ := V_vc.oct.facts
                   obtain ⟨l_vd, a_vd, b_vd, c_vd, d_vd, e_vd, f_vd, g_vd, h_vd⟩ := V_vd.oct.facts
                   obtain ⟨l_vp, a_vp, b_vp, c_vp, d_vp, e_vp, f_vp, g_vp, h_vp⟩ := V_vp.oct.facts
                   obtain ⟨l_vq, a_vq, b_vq, c_vq, d_vq, e_vq, f_vq, g_vq, h_vq⟩ := V_vq.oct.facts
                   obtain ⟨l_vl, a_vl, b_vl, c_vl, d_vl, e_vl, f_vl, g_vl, h_vl⟩ := V_vl.oct.facts
                   have kl := CK.blk.lt
                   have k0 := CK.blk.cell 0
                   simp at k0
                   clear hV hK
                   go_simp
                   first
                   | exact Below.refl _ _
                   | ((with_reducible refine (sameGauss_true V _ _ V_va.at_ V_vb.at_).mono ?_); rintro e w' ⟨rfl, hb⟩; exact ⟨rfl, hb⟩)
                   | ((with_reducible refine (sameGauss_true V _ _ V_vc.at_ V_vd.at_).mono ?_); rintro e w' ⟨rfl, hb⟩; exact ⟨rfl, hb⟩)
                   | ((with_reducible refine (sameGauss_true V _ _ V_vp.at_ V_vq.at_).mono ?_); rintro e w' ⟨rfl, hb⟩; exact ⟨rfl, hb⟩)
                   | ((with_reducible refine (HC1.out V _ _ _ V_x.at_ V_y.at_ CK).mono ?_); rintro e w' ⟨v, rfl, hv, hb⟩; exact ⟨hv.in_, hb⟩))
                | (intro V hV hK h1
                   obtain ⟨V_vl, V_vq, V_vp, V_vd, V_vc, V_vb, V_va, CK, V_x, V_y, -⟩ := (F.out.below hV).h
                   obtain ⟨l_x, a_x, b_x, c_x, d_x, e_x, f_x, g_x, h_x⟩ := V_x.oct.facts
                   obtain ⟨l_y, a_y, b_y, c_y, d_y, e_y, f_y, g_y, h_y⟩ := V_y.oct.facts
                   obtain ⟨l_va, a_va, b_va, c_va, d_va, e_va, f_va, g_va, h_va⟩ := V_va.oct.facts
                   obtain ⟨l_vb, a_vb, b_vb, c_vb, d_vb, e_vb, f_vb, g_vb, h_vb⟩ := V_vb.oct.facts
                   obtain ⟨l_vc, a_vc, b_vc, c_vc, d_vc, e_vc, f_vc, g_vc, h_vc⟩ := V_vc.oct.facts
                   obtain ⟨l_vd, a_vd, b_vd, c_vd, d_vd, e_vd, f_vd, g_vd, h_vd⟩ := V_vd.oct.facts
                   obtain ⟨l_vp, a_vp, b_vp, c_vp, d_vp, e_vp, f_vp, g_vp, h_vp⟩ := V_vp.oct.facts
                   obtain ⟨l_vq, a_vq, b_vq, c_vq, d_vq, e_vq, f_vq, g_vq, h_vq⟩ := V_vq.oct.facts
                   obtain ⟨l_vl, a_vl, b_vl, c_vl, d_vl, e_vl, f_vl, g_vl, h_vl⟩ := V_vl.oct.facts
                   have kl := CK.blk.lt
                   have k0 := CK.blk.cell 0
                   simp at k0
                   clear hV hK
                   go_simp
                   ((with_reducible refine (sameGauss_true V _ _ V_vl.at_ h1.at_).mono ?_); rintro e w' ⟨rfl, hb⟩; exact ⟨rfl, hb⟩))
              · simp [EndF, FactsF, freeAct, fill, pairs]
                intro u1 V11 hV hK h1 _ _ _
                have F := Hd (F.out.below hV)
                clear hV hK h1
                clear HC1 HC2 HC3 HC4 HC6 HC7 HC8 HC9 HC10 HC11 HC12 HC13
                obtain ⟨-, -, -, -, V_vc, -, -, -, -, -, V_z, -⟩ := F.out.h
                obtain ⟨l_vc, a_vc, b_vc, c_vc, d_vc, e_vc, f_vc, g_vc, h_vc⟩ := V_vc.oct.facts
                obtain ⟨l_z, a_z, b_z, c_z, d_z, e_z, f_z, g_z, h_z⟩ := V_z.oct.facts
                go_wp2_with fail
                refine (HC15.out V11 _ _ V_vc.at_ V_z.at_).mono ?_
                rintro e wx12 ⟨v, rfl, hI, hb⟩
                obtain ⟨A12a, c12a, A12b, c12b, A12c, c12c, A12d, c12d, rfl, -⟩ := hI.form
                have hn := GV.new 28 (hI.at_)
                have ha := (Below.refl wx12.heap.size wx12).alloc (Nat.le_refl _) (.cells #[.bool (decide (k0 < 0)), .slice A12a (natL k0.natAbs).length c12a, .bool (decide (k0 < 0)), .slice A12b (natL k0.natAbs).length c12b, .bool (decide (k0 < 0)), .slice A12c (natL k0.natAbs).length c12c, .bool (decide (k0 < 0)), .slice A12d (natL k0.natAbs).length c12d] 28)
                have F := Hd (((F.out.below hb).below ha).add hn (fun _ _ => GV.below))
                clear l_vc a_vc b_vc c_vc d_vc e_vc f_vc g_vc h_vc l_z a_z b_z c_z d_z e_z f_z g_z h_z V_vc V_z
                clear hI hb hn ha
                go_upto_region 14 with fail
                obtain ⟨wy12, E⟩ : ∃ W, W = wx12.alloc (.cells #[.bool (decide (k0 < 0)), .slice A12a (natL k0.natAbs).length c12a, .bool (decide (k0 < 0)), .slice A12b (natL k0.natAbs).length c12b, .bool (decide (k0 < 0)), .slice A12c (natL k0.natAbs).length c12c, .bool (decide (k0 < 0)), .slice A12d (natL k0.natAbs).length c12d] 28) := ⟨_, rfl⟩
                obtain ⟨q12, hq⟩ : ∃ q, q = wx12.heap.size := ⟨_, rfl⟩
                rw [← E, ← hq] at F ⊢
                clear E hq
                go_wp2_with fail
                refine wp_region_free [.val (.agg #[.bool (decide (a < 0)), .slice Az1 (natL a.natAbs).length cz1, .bool (decide (b < 0)), .slice Az2 (natL b.natAbs).length cz2, .bool (decide (c < 0)), .slice Az3 (natL c.natAbs).length cz3, .bool (decide (l < 0)), .slice Az4 (natL l.natAbs).length cz4]) [], .any false (fun u V => GaussIn V u z0 oo z0 oo) [], .val (.bool true) [1]] wy12.heap.size wy12 [] (fun _ _ => False) _ mixedOrders2 (Nat.le_refl _) (Below.refl _ _) (KeptV.refl _ _ _) rfl (by kernel_rfl) (by kernel_rfl) (by kernel_rfl) (by kernel_rfl) (by kernel_rfl) (by kernel_rfl) (by kernel_rfl) (by kernel_rfl) rfl (by simp [oldsF]) ?_ ?_ ?_ ?_
                · simp only [StableF, and_true]
                  exact fun u V V' h k => h.kept k (by decide)
                · simp only [OldsF]
                · simp (maxSteps := 4000000) [StepsF, DepF, freeAct, fill, pairs]
                  repeat' (first | apply And.intro | (intro (u : Value)) | (intro (u : Nat)))
                  all_goals first
                  | (intro V hV hK
                     obtain ⟨-, -, -, -, -, -, -, -, -, -, -, V_z, -⟩ := (F.out.below hV).h
                     obtain ⟨l_z, a_z, b_z, c_z, d_z, e_z, f_z, g_z, h_z⟩ := V_z.oct.facts
                     clear hV hK
                     go_simp
                     first
                     | exact Below.refl _ _
                     | ((with_reducible refine (HC14.out V).mono ?_); rintro e w' ⟨v, rfl, hv, hb⟩; exact ⟨hv.in_, hb⟩))
                  | (intro V hV hK h1
                     obtain ⟨-, -, -, -, -, -, -, -, -, -, -, V_z, -⟩ := (F.out.below hV).h
                     obtain ⟨l_z, a_z, b_z, c_z, d_z, e_z, f_z, g_z, h_z⟩ := V_z.oct.facts
                     clear hV hK
                     go_simp
                     ((with_reducible refine (HC16.out V _ _ V_z.at_ h1.at_).mono ?_); rintro e w' ⟨rfl, hb⟩; exact ⟨rfl, hb⟩))
                · simp [EndF, FactsF, freeAct, fill, pairs]
                  intro u1 V13 hV hK h1 _ _ _
                  have F := Hd (F.out.below hV)
                  clear hV hK h1
                  obtain ⟨-, -, -, -, -, -, -, -, -, -, -, -, HB⟩ := F.out.h
                  have HE := Hd HB
                  clear HB
                  go_wp2_with fail
                  refine (alive_true V13 (HT.out.below2 HE.out)).mono ?_
                  rintro e vx ⟨rfl, hb⟩
                  have HE := Hd (belowTo HE.out hb)
                  clear hb
                  go_wp2_with fail
                  go_ret
                  exact ⟨rfl, HE.out⟩

theorem gfield_quo {Ax1 Ax2 Ax3 Ax4 : Option Addr} {cx1 cx2 cx3 cx4 : Nat} {Ay1 Ay2 Ay3 Ay4 : Option Addr} {cy1 cy2 cy3 cy4 : Nat} {Az1 Az2 Az3 Az4 : Option Addr} {cz1 cz2 cz3 cz4 : Nat} {n d m f p q r s a b c l sa1 sa2 sa3 sa4 ab1 ab2 ab3 ab4 tc1 tc2 tc3 tc4 cd1 cd2 cd3 cd4 gd1 gd2 gd3 gd4 qe1 qe2 qe3 qe4 hf1 hf2 hf3 hf4 z0 oo : Int} (CB : (∀ (V : World) (g : Nat), V.heap.size = g → GaussAt V (.agg #[.bool (decide (n < 0)), .slice Ax1 (natL n.natAbs).length cx1, .bool (decide (d < 0)), .slice Ax2 (natL d.natAbs).length cx2, .bool (decide (m < 0)), .slice Ax3 (natL m.natAbs).length cx3, .bool (decide (f < 0)), .slice Ax4 (natL f.natAbs).length cx4]) n d m f → GaussAt V (.agg #[.bool (decide (p < 0)), .slice Ay1 (natL p.natAbs).length cy1, .bool (decide (q < 0)), .slice Ay2 (natL q.natAbs).length cy2, .bool (decide (r < 0)), .slice Ay3 (natL r.natAbs).length cy3, .bool (decide (s < 0)), .slice Ay4 (natL s.natAbs).length cy4]) p q r s → GaussAt V (.agg #[.bool (decide (a < 0)), .slice Az1 (natL a.natAbs).length cz1, .bool (decide (b < 0)), .slice Az2 (natL b.natAbs).length cz2, .bool (decide (c < 0)), .slice Az3 (natL c.natAbs).length cz3, .bool (decide (l < 0)), .slice Az4 (natL l.natAbs).length cz4]) a b c l → Calls Tryz.prog 25 #[.slice (some ⟨g, 0, none⟩) 3 3] (V.alloc (.cells #[.bool (decide (n < 0)), .slice Ax1 (natL n.natAbs).length cx1, .bool (decide (d < 0)), .slice Ax2 (natL d.natAbs).length cx2, .bool (decide (m < 0)), .slice Ax3 (natL m.natAbs).length cx3, .bool (decide (f < 0)), .slice Ax4 (natL f.natAbs).length cx4, .bool (decide (p < 0)), .slice Ay1 (natL p.natAbs).length cy1, .bool (decide (q < 0)), .slice Ay2 (natL q.natAbs).length cy2, .bool (decide (r < 0)), .slice Ay3 (natL r.natAbs).length cy3, .bool (decide (s < 0)), .slice Ay4 (natL s.natAbs).length cy4, .bool (decide (a < 0)), .slice Az1 (natL a.natAbs).length cz1, .bool (decide (b < 0)), .slice Az2 (natL b.natAbs).length cz2, .bool (decide (c < 0)), .slice Az3 (natL c.natAbs).length cz3, .bool (decide (l < 0)), .slice Az4 (natL l.natAbs).length cz4] 28)) fun e w' => e = .returned (.bool false) ∧ Below (V.alloc (.cells #[.bool (decide (n < 0)), .slice Ax1 (natL n.natAbs).length cx1, .bool (decide (d < 0)), .slice Ax2 (natL d.natAbs).length cx2, .bool (decide (m < 0)), .slice Ax3 (natL m.natAbs).length cx3, .bool (decide (f < 0)), .slice Ax4 (natL f.natAbs).length cx4, .bool (decide (p < 0)), .slice Ay1 (natL p.natAbs).length cy1, .bool (decide (q < 0)), .slice Ay2 (natL q.natAbs).length cy2, .bool (decide (r < 0)), .slice Ay3 (natL r.natAbs).length cy3, .bool (decide (s < 0)), .slice Ay4 (natL s.natAbs).length cy4, .bool (decide (a < 0)), .slice Az1 (natL a.natAbs).length cz1, .bool (decide (b < 0)), .slice Az2 (natL b.natAbs).length cz2, .bool (decide (c < 0)), .slice Az3 (natL c.natAbs).length cz3, .bool (decide (l < 0)), .slice Az4 (natL l.natAbs).length cz4] 28)).heap.size (V.alloc (.cells #[.bool (decide (n < 0)), .slice Ax1 (natL n.natAbs).length cx1, .bool (decide (d < 0)), .slice Ax2 (natL d.natAbs).length cx2, .bool (decide (m < 0)), .slice Ax3 (natL m.natAbs).length cx3, .bool (decide (f < 0)), .slice Ax4 (natL f.natAbs).length cx4, .bool (decide (p < 0)), .slice Ay1 (natL p.natAbs).length cy1, .bool (decide (q < 0)), .slice Ay2 (natL q.natAbs).length cy2, .bool (decide (r < 0)), .slice Ay3 (natL r.natAbs).length cy3, .bool (decide (s < 0)), .slice Ay4 (natL s.natAbs).length cy4, .bool (decide (a < 0)), .slice Az1 (natL a.natAbs).length cz1, .bool (decide (b < 0)), .slice Az2 (natL b.natAbs).length cz2, .bool (decide (c < 0)), .slice Az3 (natL c.natAbs).length cz3, .bool (decide (l < 0)), .slice Az4 (natL l.natAbs).length cz4] 28)) w')) (CK0 : ∀ (V : World) (v : Value), GaussAt V v n d m f → Calls Tryz.prog 14 #[v] V fun e w' => e = .returned (.int .i64 0) ∧ Below V.heap.size V w') (CK1 : ∀ (V : World) (v : Value), GaussAt V v p q r s → Calls Tryz.prog 14 #[v] V fun e w' => e = .returned (.int .i64 0) ∧ Below V.heap.size V w') (CK2 : ∀ (V : World) (v : Value), GaussAt V v a b c l → Calls Tryz.prog 14 #[v] V fun e w' => e = .returned (.int .i64 0) ∧ Below V.heap.size V w') (C1 : OpS 26 n d m f p q r s sa1 sa2 sa3 sa4) (C2 : OpS 26 sa1 sa2 sa3 sa4 a b c l ab1 ab2 ab3 ab4) (C3 : OpS 26 p q r s n d m f sa1 sa2 sa3 sa4) (C4 : OpS 26 a b c l sa1 sa2 sa3 sa4 ab1 ab2 ab3 ab4) (C5 : OpS 27 n d m f p q r s tc1 tc2 tc3 tc4) (C6 : OpS 27 tc1 tc2 tc3 tc4 a b c l cd1 cd2 cd3 cd4) (C7 : OpS 27 p q r s n d m f tc1 tc2 tc3 tc4) (C8 : OpS 27 a b c l tc1 tc2 tc3 tc4 cd1 cd2 cd3 cd4) (C9 : OpS 26 p q r s a b c l gd1 gd2 gd3 gd4) (C10 : OpS 27 n d m f gd1 gd2 gd3 gd4 qe1 qe2 qe3 qe4) (C11 : OpS 27 n d m f a b c l hf1 hf2 hf3 hf4) (C12 : OpS 26 tc1 tc2 tc3 tc4 hf1 hf2 hf3 hf4 qe1 qe2 qe3 qe4) (C13 : OpG2 28 ab1 ab2 ab3 ab4 a b c l sa1 sa2 sa3 sa4 0) (C15 : OpG2 29 cd1 cd2 cd3 cd4 a b c l tc1 tc2 tc3 tc4 0) (C14 : ∀ V : World, Calls Tryz.prog 11 #[.int .i64 0, .int .i64 0] V (RetGaussOwn V.heap.size V z0 oo z0 oo)) (C16 : ∀ (V : World) (v1 v2 : Value), GaussAt V v1 a b c l → GaussAt V v2 z0 oo z0 oo → Calls Tryz.prog 12 #[v1, v2] V fun e w' => e = .returned (.bool false) ∧ Below V.heap.size V w') (w : World) (g_x : GaussAt w (.agg #[.bool (decide (n < 0)), .slice Ax1 (natL n.natAbs).length cx1, .bool (decide (d < 0)), .slice Ax2 (natL d.natAbs).length cx2, .bool (decide (m < 0)), .slice Ax3 (natL m.natAbs).length cx3, .bool (decide (f < 0)), .slice Ax4 (natL f.natAbs).length cx4]) n d m f) (g_y : GaussAt w (.agg #[.bool (decide (p < 0)), .slice Ay1 (natL p.natAbs).length cy1, .bool (decide (q < 0)), .slice Ay2 (natL q.natAbs).length cy2, .bool (decide (r < 0)), .slice Ay3 (natL r.natAbs).length cy3, .bool (decide (s < 0)), .slice Ay4 (natL s.natAbs).length cy4]) p q r s) (g_z : GaussAt w (.agg #[.bool (decide (a < 0)), .slice Az1 (natL a.natAbs).length cz1, .bool (decide (b < 0)), .slice Az2 (natL b.natAbs).length cz2, .bool (decide (c < 0)), .slice Az3 (natL c.natAbs).length cz3, .bool (decide (l < 0)), .slice Az4 (natL l.natAbs).length cz4]) a b c l) (htab : powTab w) :
    Calls Tryz.prog 5 #[.agg #[.bool (decide (n < 0)), .slice Ax1 (natL n.natAbs).length cx1, .bool (decide (d < 0)), .slice Ax2 (natL d.natAbs).length cx2, .bool (decide (m < 0)), .slice Ax3 (natL m.natAbs).length cx3, .bool (decide (f < 0)), .slice Ax4 (natL f.natAbs).length cx4], .agg #[.bool (decide (p < 0)), .slice Ay1 (natL p.natAbs).length cy1, .bool (decide (q < 0)), .slice Ay2 (natL q.natAbs).length cy2, .bool (decide (r < 0)), .slice Ay3 (natL r.natAbs).length cy3, .bool (decide (s < 0)), .slice Ay4 (natL s.natAbs).length cy4], .agg #[.bool (decide (a < 0)), .slice Az1 (natL a.natAbs).length cz1, .bool (decide (b < 0)), .slice Az2 (natL b.natAbs).length cz2, .bool (decide (c < 0)), .slice Az3 (natL c.natAbs).length cz3, .bool (decide (l < 0)), .slice Az4 (natL l.natAbs).length cz4]] w fun e w' => e = .returned (.bool true) ∧ Below w.heap.size w w' := by
  have HC := Hd CB
  have HK0 := Hd CK0
  have HK1 := Hd CK1
  have HK2 := Hd CK2
  have HC1 := Hd C1
  have HC2 := Hd C2
  have HC3 := Hd C3
  have HC4 := Hd C4
  have HC5 := Hd C5
  have HC6 := Hd C6
  have HC7 := Hd C7
  have HC8 := Hd C8
  have HC9 := Hd C9
  have HC10 := Hd C10
  have HC11 := Hd C11
  have HC12 := Hd C12
  have HC13 := Hd C13
  have HC15 := Hd C15
  have HC14 := Hd C14
  have HC16 := Hd C16
  have HT := Hd htab
  clear CB htab CK0 CK1 CK2 C1 C2 C3 C4 C5 C6 C7 C8 C9 C10 C11 C12 C13 C15 C14 C16
  go_enter Tryz.func5, Tryz.ntmps5
  go_upto_region 1 with fail
  refine boxes3 (P := fun W => Code.wp _ _ _ _ W) fun W p0 p1 p2 b0 => ?_
  have F := Hd ((((Kp.base b0).add (GV.mk (Oct.mk p2) (g_z.below b0)) (fun _ _ => GV.below)).add (GV.mk (Oct.mk p1) (g_y.below b0)) (fun _ _ => GV.below)).add (GV.mk (Oct.mk p0) (g_x.below b0)) (fun _ _ => GV.below))
  clear b0 p0 g_x p1 g_y p2 g_z
  obtain ⟨V_x, V_y, V_z, -⟩ := F.out.h
  obtain ⟨l_x, a_x, b_x, c_x, d_x, e_x, f_x, g_x, h_x⟩ := V_x.oct.facts
  obtain ⟨l_y, a_y, b_y, c_y, d_y, e_y, f_y, g_y, h_y⟩ := V_y.oct.facts
  obtain ⟨l_z, a_z, b_z, c_z, d_z, e_z, f_z, g_z, h_z⟩ := V_z.oct.facts
  go_wp2_with fail
  refine (HC.out W _ rfl V_x.at_ V_y.at_ V_z.at_).mono ?_
  rintro e w1 ⟨rfl, hb⟩
  have F := Hd (F.out.below (((Below.refl W.heap.size W).alloc (Nat.le_refl _) (.cells #[.bool (decide (n < 0)), .slice Ax1 (natL n.natAbs).length cx1, .bool (decide (d < 0)), .slice Ax2 (natL d.natAbs).length cx2, .bool (decide (m < 0)), .slice Ax3 (natL m.natAbs).length cx3, .bool (decide (f < 0)), .slice Ax4 (natL f.natAbs).length cx4, .bool (decide (p < 0)), .slice Ay1 (natL p.natAbs).length cy1, .bool (decide (q < 0)), .slice Ay2 (natL q.natAbs).length cy2, .bool (decide (r < 0)), .slice Ay3 (natL r.natAbs).length cy3, .bool (decide (s < 0)), .slice Ay4 (natL s.natAbs).length cy4, .bool (decide (a < 0)), .slice Az1 (natL a.natAbs).length cz1, .bool (decide (b < 0)), .slice Az2 (natL b.natAbs).length cz2, .bool (decide (c < 0)), .slice Az3 (natL c.natAbs).length cz3, .bool (decide (l < 0)), .slice Az4 (natL l.natAbs).length cz4] 28)).trans (hb.mono (by simp))))
  clear l_x a_x b_x c_x d_x e_x f_x g_x h_x l_y a_y b_y c_y d_y e_y f_y g_y h_y l_z a_z b_z c_z d_z e_z f_z g_z h_z V_x V_y V_z
  clear hb
  obtain ⟨V_x, -⟩ := F.out.h
  obtain ⟨l_x, a_x, b_x, c_x, d_x, e_x, f_x, g_x, h_x⟩ := V_x.oct.facts
  go_wp2_with fail
  refine (HK0.out w1 _ V_x.at_).mono ?_
  rintro e wx1 ⟨rfl, hb⟩
  have F := Hd (F.out.below hb)
  clear l_x a_x b_x c_x d_x e_x f_x g_x h_x V_x
  clear hb
  obtain ⟨-, V_y, -⟩ := F.out.h
  obtain ⟨l_y, a_y, b_y, c_y, d_y, e_y, f_y, g_y, h_y⟩ := V_y.oct.facts
  go_wp2_with fail
  refine (HK1.out wx1 _ V_y.at_).mono ?_
  rintro e wx2 ⟨rfl, hb⟩
  have F := Hd (F.out.below hb)
  clear l_y a_y b_y c_y d_y e_y f_y g_y h_y V_y
  clear hb
  obtain ⟨-, -, V_z, -⟩ := F.out.h
  obtain ⟨l_z, a_z, b_z, c_z, d_z, e_z, f_z, g_z, h_z⟩ := V_z.oct.facts
  go_wp2_with fail
  refine (HK2.out wx2 _ V_z.at_).mono ?_
  rintro e wx3 ⟨rfl, hb⟩
  have F := Hd (F.out.below hb)
  clear l_z a_z b_z c_z d_z e_z f_z g_z h_z V_z
  clear hb
  have ha := (Below.refl wx3.heap.size wx3).alloc (Nat.le_refl _) (.cells #[.bool true] 4)
  have F := Hd ((F.out.below ha).add (Cell1.mk (Blk.new wx3 4 #[.bool true])) (fun _ _ => Cell1.below))
  clear ha
  go_upto_region 4 with fail
  obtain ⟨wo, E⟩ : ∃ W, W = wx3.alloc (.cells #[.bool true] 4) := ⟨_, rfl⟩
  obtain ⟨bo, hq⟩ : ∃ q, q = wx3.heap.size := ⟨_, rfl⟩
  rw [← E, ← hq] at F ⊢
  clear E hq
  go_wp2_with fail
  refine wp_region_free [.val (.agg #[.bool (decide (n < 0)), .slice Ax1 (natL n.natAbs).length cx1, .bool (decide (d < 0)), .slice Ax2 (natL d.natAbs).length cx2, .bool (decide (m < 0)), .slice Ax3 (natL m.natAbs).length cx3, .bool (decide (f < 0)), .slice Ax4 (natL f.natAbs).length cx4]) [], .val (.agg #[.bool (decide (p < 0)), .slice Ay1 (natL p.natAbs).length cy1, .bool (decide (q < 0)), .slice Ay2 (natL q.natAbs).length cy2, .bool (decide (r < 0)), .slice Ay3 (natL r.natAbs).length cy3, .bool (decide (s < 0)), .slice Ay4 (natL s.natAbs).length cy4]) [], .any false (fun u V => GaussIn V u sa1 sa2 sa3 sa4) [], .val (.agg #[.bool (decide (a < 0)), .slice Az1 (natL a.natAbs).length cz1, .bool (decide (b < 0)), .slice Az2 (natL b.natAbs).length cz2, .bool (decide (c < 0)), .slice Az3 (natL c.natAbs).length cz3, .bool (decide (l < 0)), .slice Az4 (natL l.natAbs).length cz4]) [], .any false (fun u V => GaussIn V u ab1 ab2 ab3 ab4) [2], .new 28 8, .put 28 8 5 4 []] wo.heap.size wo [28] (fun _ _ => False) _ mixedOrders2 (Nat.le_refl _) (Below.refl _ _) (KeptV.refl _ _ _) rfl (by kernel_rfl) (by kernel_rfl) (by kernel_rfl) (by kernel_rfl) (by kernel_rfl) (by kernel_rfl) (by kernel_rfl) (by kernel_rfl) rfl (by simp [oldsF]) ?_ ?_ ?_ ?_
  · simp only [StableF, and_true]
    exact ⟨fun u V V' h k => h.kept k (by decide), fun u V V' h k => h.kept k (by decide)⟩
  · simp only [OldsF]
  · simp (maxSteps := 4000000) [StepsF, DepF, freeAct, fill, pairs]
    repeat' (first | apply And.intro | (intro (u : Value)) | (intro (u : Nat)))
    all_goals try exact ⟨_, _, _, rfl, rfl, rfl, rfl, gaussInfo⟩
    all_goals try exact allocGauss rfl
    all_goals first
    | (intro V hV hK
       obtain ⟨CK, V_x, V_y, V_z, -⟩ := (F.out.below hV).h
       obtain ⟨l_x, a_x, b_x, c_x, d_x, e_x, f_x, g_x, h_x⟩ := V_x.oct.facts
       obtain ⟨l_y, a_y, b_y, c_y, d_y, e_y, f_y, g_y, h_y⟩ := V_y.oct.facts
       obtain ⟨l_z, a_z, b_z, c_z, d_z, e_z, f_z, g_z, h_z⟩ := V_z.oct.facts
       clear hV hK
       go_simp
       first
       | exact Below.refl _ _
       | ((with_reducible refine (HC1.out V _ _ _ V_x.at_ V_y.at_ CK).mono ?_); rintro e w' ⟨v, rfl, hv, hb⟩; exact ⟨hv.in_, hb⟩))
    | (intro V hV hK h1
       obtain ⟨CK, V_x, V_y, V_z, -⟩ := (F.out.below hV).h
       obtain ⟨l_x, a_x, b_x, c_x, d_x, e_x, f_x, g_x, h_x⟩ := V_x.oct.facts
       obtain ⟨l_y, a_y, b_y, c_y, d_y, e_y, f_y, g_y, h_y⟩ := V_y.oct.facts
       obtain ⟨l_z, a_z, b_z, c_z, d_z, e_z, f_z, g_z, h_z⟩ := V_z.oct.facts
       clear hV hK
       go_simp
       ((with_reducible refine (HC2.out V _ _ _ h1.at_ V_z.at_ CK).mono ?_); rintro e w' ⟨v, rfl, hv, hb⟩; exact ⟨hv.in_, hb⟩))
    | exact fun _ _ _ (h : GaussIn _ _ _ _ _ _) => h.cells
    | exact fun _ _ _ (h : GaussIn _ _ _ _ _ _) _ => h.cells
  · simp [EndF, FactsF, freeAct, fill, pairs]
    intro u1 u2 b_va hb_va V4 hV hK h1 h2 p_va _ _ _
    have hg := h2.at_
    obtain ⟨A4a, c4a, A4b, c4b, A4c, c4c, A4d, c4d, rfl, -⟩ := h2.form
    have F := Hd ((F.out.below hV).add (GV.mk (show Oct V4 b_va 28 _ _ _ _ _ _ _ _ from ⟨p_va⟩) hg) (fun _ _ => GV.below))
    clear hV hK hg h1 h2 p_va hb_va
    go_wp2_with fail
    refine wp_region_free [.val (.agg #[.bool (decide (a < 0)), .slice Az1 (natL a.natAbs).length cz1, .bool (decide (b < 0)), .slice Az2 (natL b.natAbs).length cz2, .bool (decide (c < 0)), .slice Az3 (natL c.natAbs).length cz3, .bool (decide (l < 0)), .slice Az4 (natL l.natAbs).length cz4]) [], .val (.agg #[.bool (decide (p < 0)), .slice Ay1 (natL p.natAbs).length cy1, .bool (decide (q < 0)), .slice Ay2 (natL q.natAbs).length cy2, .bool (decide (r < 0)), .slice Ay3 (natL r.natAbs).length cy3, .bool (decide (s < 0)), .slice Ay4 (natL s.natAbs).length cy4]) [], .val (.agg #[.bool (decide (n < 0)), .slice Ax1 (natL n.natAbs).length cx1, .bool (decide (d < 0)), .slice Ax2 (natL d.natAbs).length cx2, .bool (decide (m < 0)), .slice Ax3 (natL m.natAbs).length cx3, .bool (decide (f < 0)), .slice Ax4 (natL f.natAbs).length cx4]) [], .any false (fun u V => GaussIn V u sa1 sa2 sa3 sa4) [], .any false (fun u V => GaussIn V u ab1 ab2 ab3 ab4) [3], .new 28 8, .put 28 8 5 4 []] V4.heap.size V4 [28] (fun _ _ => False) _ mixedOrders2 (Nat.le_refl _) (Below.refl _ _) (KeptV.refl _ _ _) rfl (by kernel_rfl) (by kernel_rfl) (by kernel_rfl) (by kernel_rfl) (by kernel_rfl) (by kernel_rfl) (by kernel_rfl) (by kernel_rfl) rfl (by simp [oldsF]) ?_ ?_ ?_ ?_
    · simp only [StableF, and_true]
      exact ⟨fun u V V' h k => h.kept k (by decide), fun u V V' h k => h.kept k (by decide)⟩
    · simp only [OldsF]
    · simp (maxSteps := 4000000) [StepsF, DepF, freeAct, fill, pairs]
      repeat' (first | apply And.intro | (intro (u : Value)) | (intro (u : Nat)))
      all_goals try exact ⟨_, _, _, rfl, rfl, rfl, rfl, gaussInfo⟩
      all_goals try exact allocGauss rfl
      all_goals first
      | (intro V hV hK
         obtain ⟨-, CK, V_x, V_y, V_z, -⟩ := (F.out.below hV).h
         obtain ⟨l_x, a_x, b_x, c_x, d_x, e_x, f_x, g_x, h_x⟩ := V_x.oct.facts
         obtain ⟨l_y, a_y, b_y, c_y, d_y, e_y, f_y, g_y, h_y⟩ := V_y.oct.facts
         obtain ⟨l_z, a_z, b_z, c_z, d_z, e_z, f_z, g_z, h_z⟩ := V_z.oct.facts
         clear hV hK
         go_simp
         first
         | exact Below.refl _ _
         | ((with_reducible refine (HC3.out V _ _ _ V_y.at_ V_x.at_ CK).mono ?_); rintro e w' ⟨v, rfl, hv, hb⟩; exact ⟨hv.in_, hb⟩))
      | (intro V hV hK h1
         obtain ⟨-, CK, V_x, V_y, V_z, -⟩ := (F.out.below hV).h
         obtain ⟨l_x, a_x, b_x, c_x, d_x, e_x, f_x, g_x, h_x⟩ := V_x.oct.facts
         obtain ⟨l_y, a_y, b_y, c_y, d_y, e_y, f_y, g_y, h_y⟩ := V_y.oct.facts
         obtain ⟨l_z, a_z, b_z, c_z, d_z, e_z, f_z, g_z, h_z⟩ := V_z.oct.facts
         clear hV hK
         go_simp
         ((with_reducible refine (HC4.out V _ _ _ V_z.at_ h1.at_ CK).mono ?_); rintro e w' ⟨v, rfl, hv, hb⟩; exact ⟨hv.in_, hb⟩))
      | exact fun _ _ _ (h : GaussIn _ _ _ _ _ _) => h.cells
      | exact fun _ _ _ (h : GaussIn _ _ _ _ _ _) _ => h.cells
    · simp [EndF, FactsF, freeAct, fill, pairs]
      intro u1 u2 b_vb hb_vb V5 hV hK h1 h2 p_vb _ _ _
      have hg := h2.at_
      obtain ⟨A5a, c5a, A5b, c5b, A5c, c5c, A5d, c5d, rfl, -⟩ := h2.form
      have F := Hd ((F.out.below hV).add (GV.mk (show Oct V5 b_vb 28 _ _ _ _ _ _ _ _ from ⟨p_vb⟩) hg) (fun _ _ => GV.below))
      clear hV hK hg h1 h2 p_vb hb_vb
      go_wp2_with fail
      refine wp_region_free [.val (.agg #[.bool (decide (n < 0)), .slice Ax1 (natL n.natAbs).length cx1, .bool (decide (d < 0)), .slice Ax2 (natL d.natAbs).length cx2, .bool (decide (m < 0)), .slice Ax3 (natL m.natAbs).length cx3, .bool (decide (f < 0)), .slice Ax4 (natL f.natAbs).length cx4]) [], .val (.agg #[.bool (decide (p < 0)), .slice Ay1 (natL p.natAbs).length cy1, .bool (decide (q < 0)), .slice Ay2 (natL q.natAbs).length cy2, .bool (decide (r < 0)), .slice Ay3 (natL r.natAbs).length cy3, .bool (decide (s < 0)), .slice Ay4 (natL s.natAbs).length cy4]) [], .any false (fun u V => GaussIn V u tc1 tc2 tc3 tc4) [], .val (.agg #[.bool (decide (a < 0)), .slice Az1 (natL a.natAbs).length cz1, .bool (decide (b < 0)), .slice Az2 (natL b.natAbs).length cz2, .bool (decide (c < 0)), .slice Az3 (natL c.natAbs).length cz3, .bool (decide (l < 0)), .slice Az4 (natL l.natAbs).length cz4]) [], .any false (fun u V => GaussIn V u cd1 cd2 cd3 cd4) [2], .new 28 8, .put 28 8 5 4 []] V5.heap.size V5 [28] (fun _ _ => False) _ mixedOrders2 (Nat.le_refl _) (Below.refl _ _) (KeptV.refl _ _ _) rfl (by kernel_rfl) (by kernel_rfl) (by kernel_rfl) (by kernel_rfl) (by kernel_rfl) (by kernel_rfl) (by kernel_rfl) (by kernel_rfl) rfl (by simp [oldsF]) ?_ ?_ ?_ ?_
      · simp only [StableF, and_true]
        exact ⟨fun u V V' h k => h.kept k (by decide), fun u V V' h k => h.kept k (by decide)⟩
      · simp only [OldsF]
      · simp (maxSteps := 4000000) [StepsF, DepF, freeAct, fill, pairs]
        repeat' (first | apply And.intro | (intro (u : Value)) | (intro (u : Nat)))
        all_goals try exact ⟨_, _, _, rfl, rfl, rfl, rfl, gaussInfo⟩
        all_goals try exact allocGauss rfl
        all_goals first
        | (intro V hV hK
           obtain ⟨-, -, CK, V_x, V_y, V_z, -⟩ := (F.out.below hV).h
           obtain ⟨l_x, a_x, b_x, c_x, d_x, e_x, f_x, g_x, h_x⟩ := V_x.oct.facts
           obtain ⟨l_y, a_y, b_y, c_y, d_y, e_y, f_y, g_y, h_y⟩ := V_y.oct.facts
           obtain ⟨l_z, a_z, b_z, c_z, d_z, e_z, f_z, g_z, h_z⟩ := V_z.oct.facts
           clear hV hK
           go_simp
           first
           | exact Below.refl _ _
           | ((with_reducible refine (HC5.out V _ _ _ V_x.at_ V_y.at_ CK).mono ?_); rintro e w' ⟨v, rfl, hv, hb⟩; exact ⟨hv.in_, hb⟩))
        | (intro V hV hK h1
           obtain ⟨-, -, CK, V_x, V_y, V_z, -⟩ := (F.out.below hV).h
           obtain ⟨l_x, a_x, b_x, c_x, d_x, e_x, f_x, g_x, h_x⟩ := V_x.oct.facts
           obtain ⟨l_y, a_y, b_y, c_y, d_y, e_y, f_y, g_y, h_y⟩ := V_y.oct.facts
           obtain ⟨l_z, a_z, b_z, c_z, d_z, e_z, f_z, g_z, h_z⟩ := V_z.oct.facts
           clear hV hK
           go_simp
           ((with_reducible refine (HC6.out V _ _ _ h1.at_ V_z.at_ CK).mono ?_); rintro e w' ⟨v, rfl, hv, hb⟩; exact ⟨hv.in_, hb⟩))
        | exact fun _ _ _ (h : GaussIn _ _ _ _ _ _) => h.cells
        | exact fun _ _ _ (h : GaussIn _ _ _ _ _ _) _ => h.cells
      · simp [EndF, FactsF, freeAct, fill, pairs]
        intro u1 u2 b_vc hb_vc V6 hV hK h1 h2 p_vc _ _ _
        have hg := h2.at_
        obtain ⟨A6a, c6a, A6b, c6b, A6c, c6c, A6d, c6d, rfl, -⟩ := h2.form
        have F := Hd ((F.out.below hV).add (GV.mk (show Oct V6 b_vc 28 _ _ _ _ _ _ _ _ from ⟨p_vc⟩) hg) (fun _ _ => GV.below))
        clear hV hK hg h1 h2 p_vc hb_vc
        go_wp2_with fail
        refine wp_region_free [.val (.agg #[.bool (decide (a < 0)), .slice Az1 (natL a.natAbs).length cz1, .bool (decide (b < 0)), .slice Az2 (natL b.natAbs).length cz2, .bool (decide (c < 0)), .slice Az3 (natL c.natAbs).length cz3, .bool (decide (l < 0)), .slice Az4 (natL l.natAbs).length cz4]) [], .val (.agg #[.bool (decide (p < 0)), .slice Ay1 (natL p.natAbs).length cy1, .bool (decide (q < 0)), .slice Ay2 (natL q.natAbs).length cy2, .bool (decide (r < 0)), .slice Ay3 (natL r.natAbs).length cy3, .bool (decide (s < 0)), .slice Ay4 (natL s.natAbs).length cy4]) [], .val (.agg #[.bool (decide (n < 0)), .slice Ax1 (natL n.natAbs).length cx1, .bool (decide (d < 0)), .slice Ax2 (natL d.natAbs).length cx2, .bool (decide (m < 0)), .slice Ax3 (natL m.natAbs).length cx3, .bool (decide (f < 0)), .slice Ax4 (natL f.natAbs).length cx4]) [], .any false (fun u V => GaussIn V u tc1 tc2 tc3 tc4) [], .any false (fun u V => GaussIn V u cd1 cd2 cd3 cd4) [3], .new 28 8, .put 28 8 5 4 []] V6.heap.size V6 [28] (fun _ _ => False) _ mixedOrders2 (Nat.le_refl _) (Below.refl _ _) (KeptV.refl _ _ _) rfl (by kernel_rfl) (by kernel_rfl) (by kernel_rfl) (by kernel_rfl) (by kernel_rfl) (by kernel_rfl) (by kernel_rfl) (by kernel_rfl) rfl (by simp [oldsF]) ?_ ?_ ?_ ?_
        · simp only [StableF, and_true]
          exact ⟨fun u V V' h k => h.kept k (by decide), fun u V V' h k => h.kept k (by decide)⟩
        · simp only [OldsF]
        · simp (maxSteps := 4000000) [StepsF, DepF, freeAct, fill, pairs]
          repeat' (first | apply And.intro | (intro (u : Value)) | (intro (u : Nat)))
          all_goals try exact ⟨_, _, _, rfl, rfl, rfl, rfl, gaussInfo⟩
          all_goals try exact allocGauss rfl
          all_goals first
          | (intro V hV hK
             obtain ⟨-, -, -, CK, V_x, V_y, V_z, -⟩ := (F.out.below hV).h
             obtain ⟨l_x, a_x, b_x, c_x, d_x, e_x, f_x, g_x, h_x⟩ := V_x.oct.facts
             obtain ⟨l_y, a_y, b_y, c_y, d_y, e_y, f_y, g_y, h_y⟩ := V_y.oct.facts
             obtain ⟨l_z, a_z, b_z, c_z, d_z, e_z, f_z, g_z, h_z⟩ := V_z.oct.facts
             clear hV hK
             go_simp
             first
             | exact Below.refl _ _
             | ((with_reducible refine (HC7.out V _ _ _ V_y.at_ V_x.at_ CK).mono ?_); rintro e w' ⟨v, rfl, hv, hb⟩; exact ⟨hv.in_, hb⟩))
          | (intro V hV hK h1
             obtain ⟨-, -, -, CK, V_x, V_y, V_z, -⟩ := (F.out.below hV).h
             obtain ⟨l_x, a_x, b_x, c_x, d_x, e_x, f_x, g_x, h_x⟩ := V_x.oct.facts
             obtain ⟨l_y, a_y, b_y, c_y, d_y, e_y, f_y, g_y, h_y⟩ := V_y.oct.facts
             obtain ⟨l_z, a_z, b_z, c_z, d_z, e_z, f_z, g_z, h_z⟩ := V_z.oct.facts
             clear hV hK
             go_simp
             ((with_reducible refine (HC8.out V _ _ _ V_z.at_ h1.at_ CK).mono ?_); rintro e w' ⟨v, rfl, hv, hb⟩; exact ⟨hv.in_, hb⟩))
          | exact fun _ _ _ (h : GaussIn _ _ _ _ _ _) => h.cells
          | exact fun _ _ _ (h : GaussIn _ _ _ _ _ _) _ => h.cells
        · simp [EndF, FactsF, freeAct, fill, pairs]
          intro u1 u2 b_vd hb_vd V7 hV hK h1 h2 p_vd _ _ _
          have hg := h2.at_
          obtain ⟨A7a, c7a, A7b, c7b, A7c, c7c, A7d, c7d, rfl, -⟩ := h2.form
          have F := Hd ((F.out.below hV).add (GV.mk (show Oct V7 b_vd 28 _ _ _ _ _ _ _ _ from ⟨p_vd⟩) hg) (fun _ _ => GV.below))
          clear hV hK hg h1 h2 p_vd hb_vd
          go_wp2_with fail
          refine wp_region_free [.val (.agg #[.bool (decide (n < 0)), .slice Ax1 (natL n.natAbs).length cx1, .bool (decide (d < 0)), .slice Ax2 (natL d.natAbs).length cx2, .bool (decide (m < 0)), .slice Ax3 (natL m.natAbs).length cx3, .bool (decide (f < 0)), .slice Ax4 (natL f.natAbs).length cx4]) [], .val (.agg #[.bool (decide (p < 0)), .slice Ay1 (natL p.natAbs).length cy1, .bool (decide (q < 0)), .slice Ay2 (natL q.natAbs).length cy2, .bool (decide (r < 0)), .slice Ay3 (natL r.natAbs).length cy3, .bool (decide (s < 0)), .slice Ay4 (natL s.natAbs).length cy4]) [], .val (.agg #[.bool (decide (a < 0)), .slice Az1 (natL a.natAbs).length cz1, .bool (decide (b < 0)), .slice Az2 (natL b.natAbs).length cz2, .bool (decide (c < 0)), .slice Az3 (natL c.natAbs).length cz3, .bool (decide (l < 0)), .slice Az4 (natL l.natAbs).length cz4]) [], .any false (fun u V => GaussIn V u gd1 gd2 gd3 gd4) [], .any false (fun u V => GaussIn V u qe1 qe2 qe3 qe4) [3], .new 28 8, .put 28 8 5 4 []] V7.heap.size V7 [28] (fun _ _ => False) _ mixedOrders2 (Nat.le_refl _) (Below.refl _ _) (KeptV.refl _ _ _) rfl (by kernel_rfl) (by kernel_rfl) (by kernel_rfl) (by kernel_rfl) (by kernel_rfl) (by kernel_rfl) (by kernel_rfl) (by kernel_rfl) rfl (by simp [oldsF]) ?_ ?_ ?_ ?_
          · simp only [StableF, and_true]
            exact ⟨fun u V V' h k => h.kept k (by decide), fun u V V' h k => h.kept k (by decide)⟩
          · simp only [OldsF]
          · simp (maxSteps := 4000000) [StepsF, DepF, freeAct, fill, pairs]
            repeat' (first | apply And.intro | (intro (u : Value)) | (intro (u : Nat)))
            all_goals try exact ⟨_, _, _, rfl, rfl, rfl, rfl, gaussInfo⟩
            all_goals try exact allocGauss rfl
            all_goals first
            | (intro V hV hK
               obtain ⟨-, -, -, -, CK, V_x, V_y, V_z, -⟩ := (F.out.below hV).h
               obtain ⟨l_x, a_x, b_x, c_x, d_x, e_x, f_x, g_x, h_x⟩ := V_x.oct.facts
               obtain ⟨l_y, a_y, b_y, c_y, d_y, e_y, f_y, g_y, h_y⟩ := V_y.oct.facts
               obtain ⟨l_z, a_z, b_z, c_z, d_z, e_z, f_z, g_z, h_z⟩ := V_z.oct.facts
               clear hV hK
               go_simp
               first
               | exact Below.refl _ _
               | ((with_reducible refine (HC9.out V _ _ _ V_y.at_ V_z.at_ CK).mono ?_); rintro e w' ⟨v, rfl, hv, hb⟩; exact ⟨hv.in_, hb⟩))
            | (intro V hV hK h1
               obtain ⟨-, -, -, -, CK, V_x, V_y, V_z, -⟩ := (F.out.below hV).h
               obtain ⟨l_x, a_x, b_x, c_x, d_x, e_x, f_x, g_x, h_x⟩ := V_x.oct.facts
               obtain ⟨l_y, a_y, b_y, c_y, d_y, e_y, f_y, g_y, h_y⟩ := V_y.oct.facts
               obtain ⟨l_z, a_z, b_z, c_z, d_z, e_z, f_z, g_z, h_z⟩ := V_z.oct.facts
               clear hV hK
               go_simp
               ((with_reducible refine (HC10.out V _ _ _ V_x.at_ h1.at_ CK).mono ?_); rintro e w' ⟨v, rfl, hv, hb⟩; exact ⟨hv.in_, hb⟩))
            | exact fun _ _ _ (h : GaussIn _ _ _ _ _ _) => h.cells
            | exact fun _ _ _ (h : GaussIn _ _ _ _ _ _) _ => h.cells
          · simp [EndF, FactsF, freeAct, fill, pairs]
            intro u1 u2 b_vp hb_vp V8 hV hK h1 h2 p_vp _ _ _
            have hg := h2.at_
            obtain ⟨A8a, c8a, A8b, c8b, A8c, c8c, A8d, c8d, rfl, -⟩ := h2.form
            have F := Hd ((F.out.below hV).add (GV.mk (show Oct V8 b_vp 28 _ _ _ _ _ _ _ _ from ⟨p_vp⟩) hg) (fun _ _ => GV.below))
            clear hV hK hg h1 h2 p_vp hb_vp
            go_wp2_with fail
            refine wp_region_free [.val (.agg #[.bool (decide (n < 0)), .slice Ax1 (natL n.natAbs).length cx1, .bool (decide (d < 0)), .slice Ax2 (natL d.natAbs).length cx2, .bool (decide (m < 0)), .slice Ax3 (natL m.natAbs).length cx3, .bool (decide (f < 0)), .slice Ax4 (natL f.natAbs).length cx4]) [], .val (.agg #[.bool (decide (p < 0)), .slice Ay1 (natL p.natAbs).length cy1, .bool (decide (q < 0)), .slice Ay2 (natL q.natAbs).length cy2, .bool (decide (r < 0)), .slice Ay3 (natL r.natAbs).length cy3, .bool (decide (s < 0)), .slice Ay4 (natL s.natAbs).length cy4]) [], .any false (fun u V => GaussIn V u tc1 tc2 tc3 tc4) [], .val (.agg #[.bool (decide (n < 0)), .slice Ax1 (natL n.natAbs).length cx1, .bool (decide (d < 0)), .slice Ax2 (natL d.natAbs).length cx2, .bool (decide (m < 0)), .slice Ax3 (natL m.natAbs).length cx3, .bool (decide (f < 0)), .slice Ax4 (natL f.natAbs).length cx4]) [], .val (.agg #[.bool (decide (a < 0)), .slice Az1 (natL a.natAbs).length cz1, .bool (decide (b < 0)), .slice Az2 (natL b.natAbs).length cz2, .bool (decide (c < 0)), .slice Az3 (natL c.natAbs).length cz3, .bool (decide (l < 0)), .slice Az4 (natL l.natAbs).length cz4]) [], .any false (fun u V => GaussIn V u hf1 hf2 hf3 hf4) [], .any false (fun u V => GaussIn V u qe1 qe2 qe3 qe4) [2, 5], .new 28 8, .put 28 8 7 6 []] V8.heap.size V8 [28] (fun _ _ => False) _ mixedOrders2 (Nat.le_refl _) (Below.refl _ _) (KeptV.refl _ _ _) rfl (by kernel_rfl) (by kernel_rfl) (by kernel_rfl) (by kernel_rfl) (by kernel_rfl) (by kernel_rfl) (by kernel_rfl) (by kernel_rfl) rfl (by simp [oldsF]) ?_ ?_ ?_ ?_
            · simp only [StableF, and_true]
              exact ⟨fun u V V' h k => h.kept k (by decide), fun u V V' h k => h.kept k (by decide), fun u V V' h k => h.kept k (by decide)⟩
            · simp only [OldsF]
            · simp (maxSteps := 4000000) [StepsF, DepF, freeAct, fill, pairs]
              repeat' (first | apply And.intro | (intro (u : Value)) | (intro (u : Nat)))
              all_goals try exact ⟨_, _, _, rfl, rfl, rfl, rfl, gaussInfo⟩
              all_goals try exact allocGauss rfl
              all_goals first
              | (intro V hV hK
                 obtain ⟨-, -, -, -, -, CK, V_x, V_y, V_z, -⟩ := (F.out.below hV).h
                 obtain ⟨l_x, a_x, b_x, c_x, d_x, e_x, f_x, g_x, h_x⟩ := V_x.oct.facts
                 obtain ⟨l_y, a_y, b_y, c_y, d_y, e_y, f_y, g_y, h_y⟩ := V_y.oct.facts
                 obtain ⟨l_z, a_z, b_z, c_z, d_z, e_z, f_z, g_z, h_z⟩ := V_z.oct.facts
                 clear hV hK
                 go_simp
                 first
                 | exact Below.refl _ _
                 | ((with_reducible refine (HC5.out V _ _ _ V_x.at_ V_y.at_ CK).mono ?_); rintro e w' ⟨v, rfl, hv, hb⟩; exact ⟨hv.in_, hb⟩)
                 | ((with_reducible refine (HC11.out V _ _ _ V_x.at_ V_z.at_ CK).mono ?_); rintro e w' ⟨v, rfl, hv, hb⟩; exact ⟨hv.in_, hb⟩))
              | (intro V hV hK h1 h2
                 obtain ⟨-, -, -, -, -, CK, V_x, V_y, V_z, -⟩ := (F.out.below hV).h
                 obtain ⟨l_x, a_x, b_x, c_x, d_x, e_x, f_x, g_x, h_x⟩ := V_x.oct.facts
                 obtain ⟨l_y, a_y, b_y, c_y, d_y, e_y, f_y, g_y, h_y⟩ := V_y.oct.facts
                 obtain ⟨l_z, a_z, b_z, c_z, d_z, e_z, f_z, g_z, h_z⟩ := V_z.oct.facts
                 clear hV hK
                 go_simp
                 ((with_reducible refine (HC12.out V _ _ _ h1.at_ h2.at_ CK).mono ?_); rintro e w' ⟨v, rfl, hv, hb⟩; exact ⟨hv.in_, hb⟩))
              | exact fun _ _ _ (h : GaussIn _ _ _ _ _ _) => h.cells
              | exact fun _ _ _ (h : GaussIn _ _ _ _ _ _) _ => h.cells
            · simp [EndF, FactsF, freeAct, fill, pairs]
              intro u1 u2 u3 b_vq hb_vq V9 hV hK h1 h2 h3 p_vq _ _ _
              have hg := h3.at_
              obtain ⟨A9a, c9a, A9b, c9b, A9c, c9c, A9d, c9d, rfl, -⟩ := h3.form
              have F := Hd ((F.out.below hV).add (GV.mk (show Oct V9 b_vq 28 _ _ _ _ _ _ _ _ from ⟨p_vq⟩) hg) (fun _ _ => GV.below))
              clear hV hK hg h1 h2 h3 p_vq hb_vq
              obtain ⟨-, -, -, -, -, V_va, -, -, -, V_z, -⟩ := F.out.h
              obtain ⟨l_va, a_va, b_va, c_va, d_va, e_va, f_va, g_va, h_va⟩ := V_va.oct.facts
              obtain ⟨l_z, a_z, b_z, c_z, d_z, e_z, f_z, g_z, h_z⟩ := V_z.oct.facts
              go_wp2_with fail
              refine (HC13.out V9 _ _ V_va.at_ V_z.at_).mono ?_
              rintro e wx10 ⟨v, rfl, hI, hb⟩
              obtain ⟨A10a, c10a, A10b, c10b, A10c, c10c, A10d, c10d, rfl, -⟩ := hI.form
              have hn := GV.new 28 (hI.at_)
              have ha := (Below.refl wx10.heap.size wx10).alloc (Nat.le_refl _) (.cells #[.bool (decide (sa1 < 0)), .slice A10a (natL sa1.natAbs).length c10a, .bool (decide (sa2 < 0)), .slice A10b (natL sa2.natAbs).length c10b, .bool (decide (sa3 < 0)), .slice A10c (natL sa3.natAbs).length c10c, .bool (decide (sa4 < 0)), .slice A10d (natL sa4.natAbs).length c10d] 28)
              have F := Hd (((F.out.below hb).below ha).add hn (fun _ _ => GV.below))
              clear l_va a_va b_va c_va d_va e_va f_va g_va h_va l_z a_z b_z c_z d_z e_z f_z g_z h_z V_va V_z
              clear hI hb hn ha
              go_upto_region 11 with fail
              obtain ⟨wy10, E⟩ : ∃ W, W = wx10.alloc (.cells #[.bool (decide (sa1 < 0)), .slice A10a (natL sa1.natAbs).length c10a, .bool (decide (sa2 < 0)), .slice A10b (natL sa2.natAbs).length c10b, .bool (decide (sa3 < 0)), .slice A10c (natL sa3.natAbs).length c10c, .bool (decide (sa4 < 0)), .slice A10d (natL sa4.natAbs).length c10d] 28) := ⟨_, rfl⟩
              obtain ⟨q10, hq⟩ : ∃ q, q = wx10.heap.size := ⟨_, rfl⟩
              rw [← E, ← hq] at F ⊢
              clear E hq
              go_wp2_with fail
              refine wp_region_free [.val (.bool true) [], .val (.bool false) [], .val (.bool false) [], .val (.int .i64 0) [], .val (.bool false) [], .val (.bool false) [], .val (.bool false) [], .val (.agg #[.bool (decide (ab1 < 0)), .slice A4a (natL ab1.natAbs).length c4a, .bool (decide (ab2 < 0)), .slice A4b (natL ab2.natAbs).length c4b, .bool (decide (ab3 < 0)), .slice A4c (natL ab3.natAbs).length c4c, .bool (decide (ab4 < 0)), .slice A4d (natL ab4.natAbs).length c4d]) [], .val (.agg #[.bool (decide (ab1 < 0)), .slice A5a (natL ab1.natAbs).length c5a, .bool (decide (ab2 < 0)), .slice A5b (natL ab2.natAbs).length c5b, .bool (decide (ab3 < 0)), .slice A5c (natL ab3.natAbs).length c5c, .bool (decide (ab4 < 0)), .slice A5d (natL ab4.natAbs).length c5d]) [], .val (.bool true) [], .val (.bool false) [], .val (.bool false) [], .val (.bool false) [], .val (.agg #[.bool (decide (cd1 < 0)), .slice A6a (natL cd1.natAbs).length c6a, .bool (decide (cd2 < 0)), .slice A6b (natL cd2.natAbs).length c6b, .bool (decide (cd3 < 0)), .slice A6c (natL cd3.natAbs).length c6c, .bool (decide (cd4 < 0)), .slice A6d (natL cd4.natAbs).length c6d]) [], .val (.agg #[.bool (decide (cd1 < 0)), .slice A7a (natL cd1.natAbs).length c7a, .bool (decide (cd2 < 0)), .slice A7b (natL cd2.natAbs).length c7b, .bool (decide (cd3 < 0)), .slice A7c (natL cd3.natAbs).length c7c, .bool (decide (cd4 < 0)), .slice A7d (natL cd4.natAbs).length c7d]) [], .val (.bool true) [], .val (.bool false) [], .val (.bool false) [], .val (.bool false) [], .val (.agg #[.bool (decide (qe1 < 0)), .slice A8a (natL qe1.natAbs).length c8a, .bool (decide (qe2 < 0)), .slice A8b (natL qe2.natAbs).length c8b, .bool (decide (qe3 < 0)), .slice A8c (natL qe3.natAbs).length c8c, .bool (decide (qe4 < 0)), .slice A8d (natL qe4.natAbs).length c8d]) [], .val (.agg #[.bool (decide (qe1 < 0)), .slice A9a (natL qe1.natAbs).length c9a, .bool (decide (qe2 < 0)), .slice A9b (natL qe2.natAbs).length c9b, .bool (decide (qe3 < 0)), .slice A9c (natL qe3.natAbs).length c9c, .bool (decide (qe4 < 0)), .slice A9d (natL qe4.natAbs).length c9d]) [], .val (.bool true) [], .val (.bool false) [], .val (.bool false) [], .val (.bool false) [], .val (.agg #[.bool (decide (sa1 < 0)), .slice A10a (natL sa1.natAbs).length c10a, .bool (decide (sa2 < 0)), .slice A10b (natL sa2.natAbs).length c10b, .bool (decide (sa3 < 0)), .slice A10c (natL sa3.natAbs).length c10c, .bool (decide (sa4 < 0)), .slice A10d (natL sa4.natAbs).length c10d]) [], .val (.agg #[.bool (decide (n < 0)), .slice Ax1 (natL n.natAbs).length cx1, .bool (decide (d < 0)), .slice Ax2 (natL d.natAbs).length cx2, .bool (decide (m < 0)), .slice Ax3 (natL m.natAbs).length cx3, .bool (decide (f < 0)), .slice Ax4 (natL f.natAbs).length cx4]) [], .val (.agg #[.bool (decide (p < 0)), .slice Ay1 (natL p.natAbs).length cy1, .bool (decide (q < 0)), .slice Ay2 (natL q.natAbs).length cy2, .bool (decide (r < 0)), .slice Ay3 (natL r.natAbs).length cy3, .bool (decide (s < 0)), .slice Ay4 (natL s.natAbs).length cy4]) [], .any false (fun u V => GaussIn V u sa1 sa2 sa3 sa4) [], .val (.bool true) [28], .val (.bool false) [], .val (.bool false) []] wy10.heap.size wy10 [] (fun _ _ => False) _ mixedOrders2 (Nat.le_refl _) (Below.refl _ _) (KeptV.refl _ _ _) rfl (by kernel_rfl) (by kernel_rfl) (by kernel_rfl) (by kernel_rfl) (by kernel_rfl) (by kernel_rfl) (by kernel_rfl) (by kernel_rfl) rfl (by simp [oldsF]) ?_ ?_ ?_ ?_
              · simp only [StableF, and_true]
                exact fun u V V' h k => h.kept k (by decide)
              · simp only [OldsF]
              · simp (maxSteps := 4000000) [StepsF, DepF, freeAct, fill, pairs]
                repeat' (first | apply And.intro | (intro (u : Value)) | (intro (u : Nat)))
                all_goals first
                | (intro V hV hK
                   obtain ⟨V_vl, V_vq, V_vp, V_vd, V_vc, V_vb, V_va, CK, V_x, V_y, -⟩ := (F.out.below hV).h
                   obtain ⟨l_x, a_x, b_x, c_x, d_x, e_x, f_x, g_x, h_x⟩ := V_x.oct.facts
                   obtain ⟨l_y, a_y, b_y, c_y, d_y, e_y, f_y, g_y, h_y⟩ := V_y.oct.facts
                   obtain ⟨l_va, a_va, b_va, c_va, d_va, e_va, f_va, g_va, h_va⟩ := V_va.oct.facts
                   obtain ⟨l_vb, a_vb, b_vb, c_vb, d_vb, e_vb, f_vb, g_vb, h_vb⟩ := V_vb.oct.facts
                   obtain ⟨l_vc, a_vc, b_vc, c_vc, d_vc, e_vc, f_vc, g_vc, h_vc⟩ := V_vc.oct.facts
                   obtain ⟨l_vd, a_vd, b_vd, c_vd, d_vd, e_vd, f_vd, g_vd, h_vd⟩ := V_vd.oct.facts
                   obtain ⟨l_vp, a_vp, b_vp, c_vp, d_vp, e_vp, f_vp, g_vp, h_vp⟩ := V_vp.oct.facts
                   obtain ⟨l_vq, a_vq, b_vq, c_vq, d_vq, e_vq, f_vq, g_vq, h_vq⟩ := V_vq.oct.facts
                   obtain ⟨l_vl, a_vl, b_vl, c_vl, d_vl, e_vl, f_vl, g_vl, h_vl⟩ := V_vl.oct.facts
                   have kl := CK.blk.lt
                   have k0 := CK.blk.cell 0
                   simp at k0
                   clear hV hK
                   go_simp
                   first
                   | exact Below.refl _ _
                   | ((with_reducible refine (sameGauss_true V _ _ V_va.at_ V_vb.at_).mono ?_); rintro e w' ⟨rfl, hb⟩; exact ⟨rfl, hb⟩)
                   | ((with_reducible refine (sameGauss_true V _ _ V_vc.at_ V_vd.at_).mono ?_); rintro e w' ⟨rfl, hb⟩; exact ⟨rfl, hb⟩)
                   | ((with_reducible refine (sameGauss_true V _ _ V_vp.at_ V_vq.at_).mono ?_); rintro e w' ⟨rfl, hb⟩; exact ⟨rfl, hb⟩)
                   | ((with_reducible refine (HC1.out V _ _ _ V_x.at_ V_y.at_ CK).mono ?_); rintro e w' ⟨v, rfl, hv, hb⟩; exact ⟨hv.in_, hb⟩))
                | (intro V hV hK h1
                   obtain ⟨V_vl, V_vq, V_vp, V_vd, V_vc, V_vb, V_va, CK, V_x, V_y, -⟩ := (F.out.below hV).h
                   obtain ⟨l_x, a_x, b_x, c_x, d_x, e_x, f_x, g_x, h_x⟩ := V_x.oct.facts
                   obtain ⟨l_y, a_y, b_y, c_y, d_y, e_y, f_y, g_y, h_y⟩ := V_y.oct.facts
                   obtain ⟨l_va, a_va, b_va, c_va, d_va, e_va, f_va, g_va, h_va⟩ := V_va.oct.facts
                   obtain ⟨l_vb, a_vb, b_vb, c_vb, d_vb, e_vb, f_vb, g_vb, h_vb⟩ := V_vb.oct.facts
                   obtain ⟨l_vc, a_vc, b_vc, c_vc, d_vc, e_vc, f_vc, g_vc, h_vc⟩ := V_vc.oct.facts
                   obtain ⟨l_vd, a_vd, b_vd, c_vd, d_vd, e_vd, f_vd, g_vd, h_vd⟩ := V_vd.oct.facts
                   obtain ⟨l_vp, a_vp, b_vp, c_vp, d_vp, e_vp, f_vp, g_vp, h_vp⟩ := V_vp.oct.facts
                   obtain ⟨l_vq, a_vq, b_vq, c_vq, d_vq, e_vq, f_vq, g_vq, h_vq⟩ := V_vq.oct.facts
                   obtain ⟨l_vl, a_vl, b_vl, c_vl, d_vl, e_vl, f_vl, g_vl, h_vl⟩ := V_vl.oct.facts
                   have kl := CK.blk.lt
                   have k0 := CK.blk.cell 0
                   simp at k0
                   clear hV hK
                   go_simp
                   ((with_reducible refine (sameGauss_true V _ _ V_vl.at_ h1.at_).mono ?_); rintro e w' ⟨rfl, hb⟩; exact ⟨rfl, hb⟩))
              · simp [EndF, FactsF, freeAct, fill, pairs]
                intro u1 V11 hV hK h1 _ _ _
                have F := Hd (F.out.below hV)
                clear hV hK h1
                clear HC1 HC2 HC3 HC4 HC6 HC7 HC8 HC9 HC10 HC11 HC12 HC13
                obtain ⟨-, -, -, -, V_vc, -, -, -, -, -, V_z, -⟩ := F.out.h
                obtain ⟨l_vc, a_vc, b_vc, c_vc, d_vc, e_vc, f_vc, g_vc, h_vc⟩ := V_vc.oct.facts
                obtain ⟨l_z, a_z, b_z, c_z, d_z, e_z, f_z, g_z, h_z⟩ := V_z.oct.facts
                go_wp2_with fail
                refine (HC15.out V11 _ _ V_vc.at_ V_z.at_).mono ?_
                rintro e wx12 ⟨v, rfl, hI, hb⟩
                obtain ⟨A12a, c12a, A12b, c12b, A12c, c12c, A12d, c12d, rfl, -⟩ := hI.form
                have hn := GV.new 28 (hI.at_)
                have ha := (Below.refl wx12.heap.size wx12).alloc (Nat.le_refl _) (.cells #[.bool (decide (tc1 < 0)), .slice A12a (natL tc1.natAbs).length c12a, .bool (decide (tc2 < 0)), .slice A12b (natL tc2.natAbs).length c12b, .bool (decide (tc3 < 0)), .slice A12c (natL tc3.natAbs).length c12c, .bool (decide (tc4 < 0)), .slice A12d (natL tc4.natAbs).length c12d] 28)
                have F := Hd (((F.out.below hb).below ha).add hn (fun _ _ => GV.below))
                clear l_vc a_vc b_vc c_vc d_vc e_vc f_vc g_vc h_vc l_z a_z b_z c_z d_z e_z f_z g_z h_z V_vc V_z
                clear hI hb hn ha
                go_upto_region 14 with fail
                obtain ⟨wy12, E⟩ : ∃ W, W = wx12.alloc (.cells #[.bool (decide (tc1 < 0)), .slice A12a (natL tc1.natAbs).length c12a, .bool (decide (tc2 < 0)), .slice A12b (natL tc2.natAbs).length c12b, .bool (decide (tc3 < 0)), .slice A12c (natL tc3.natAbs).length c12c, .bool (decide (tc4 < 0)), .slice A12d (natL tc4.natAbs).length c12d] 28) := ⟨_, rfl⟩
                obtain ⟨q12, hq⟩ : ∃ q, q = wx12.heap.size := ⟨_, rfl⟩
                rw [← E, ← hq] at F ⊢
                clear E hq
                go_wp2_with fail
                refine wp_region_free [.val (.agg #[.bool (decide (a < 0)), .slice Az1 (natL a.natAbs).length cz1, .bool (decide (b < 0)), .slice Az2 (natL b.natAbs).length cz2, .bool (decide (c < 0)), .slice Az3 (natL c.natAbs).length cz3, .bool (decide (l < 0)), .slice Az4 (natL l.natAbs).length cz4]) [], .any false (fun u V => GaussIn V u z0 oo z0 oo) [], .val (.bool false) [1]] wy12.heap.size wy12 [] (fun _ _ => False) _ mixedOrders2 (Nat.le_refl _) (Below.refl _ _) (KeptV.refl _ _ _) rfl (by kernel_rfl) (by kernel_rfl) (by kernel_rfl) (by kernel_rfl) (by kernel_rfl) (by kernel_rfl) (by kernel_rfl) (by kernel_rfl) rfl (by simp [oldsF]) ?_ ?_ ?_ ?_
                · simp only [StableF, and_true]
                  exact fun u V V' h k => h.kept k (by decide)
                · simp only [OldsF]
                · simp (maxSteps := 4000000) [StepsF, DepF, freeAct, fill, pairs]
                  repeat' (first | apply And.intro | (intro (u : Value)) | (intro (u : Nat)))
                  all_goals first
                  | (intro V hV hK
                     obtain ⟨-, -, -, -, -, -, -, -, -, -, -, V_z, -⟩ := (F.out.below hV).h
                     obtain ⟨l_z, a_z, b_z, c_z, d_z, e_z, f_z, g_z, h_z⟩ := V_z.oct.facts
                     clear hV hK
                     go_simp
                     first
                     | exact Below.refl _ _
                     | ((with_reducible refine (HC14.out V).mono ?_); rintro e w' ⟨v, rfl, hv, hb⟩; exact ⟨hv.in_, hb⟩))
                  | (intro V hV hK h1
                     obtain ⟨-, -, -, -, -, -, -, -, -, -, -, V_z, -⟩ := (F.out.below hV).h
                     obtain ⟨l_z, a_z, b_z, c_z, d_z, e_z, f_z, g_z, h_z⟩ := V_z.oct.facts
                     clear hV hK
                     go_simp
                     ((with_reducible refine (HC16.out V _ _ V_z.at_ h1.at_).mono ?_); rintro e w' ⟨rfl, hb⟩; exact ⟨rfl, hb⟩))
                · simp [EndF, FactsF, freeAct, fill, pairs]
                  intro u1 V13 hV hK h1 _ _ _
                  have F := Hd (F.out.below hV)
                  clear hV hK h1
                  obtain ⟨-, -, -, -, -, -, -, -, -, -, -, -, HB⟩ := F.out.h
                  have F := Hd (F.out.add (HT.out.below2 HB) (fun _ _ h b => powTab.below2 h b))
                  clear HB
                  go_wp2_with fail
                  refine wp_region_free [.val (.int .i64 0) [], .val (.bool true) [], .val (.bool true) [], .val (.agg #[.bool (decide (tc1 < 0)), .slice A12a (natL tc1.natAbs).length c12a, .bool (decide (tc2 < 0)), .slice A12b (natL tc2.natAbs).length c12b, .bool (decide (tc3 < 0)), .slice A12c (natL tc3.natAbs).length c12c, .bool (decide (tc4 < 0)), .slice A12d (natL tc4.natAbs).length c12d]) [], .val (.agg #[.bool (decide (n < 0)), .slice Ax1 (natL n.natAbs).length cx1, .bool (decide (d < 0)), .slice Ax2 (natL d.natAbs).length cx2, .bool (decide (m < 0)), .slice Ax3 (natL m.natAbs).length cx3, .bool (decide (f < 0)), .slice Ax4 (natL f.natAbs).length cx4]) [], .val (.agg #[.bool (decide (p < 0)), .slice Ay1 (natL p.natAbs).length cy1, .bool (decide (q < 0)), .slice Ay2 (natL q.natAbs).length cy2, .bool (decide (r < 0)), .slice Ay3 (natL r.natAbs).length cy3, .bool (decide (s < 0)), .slice Ay4 (natL s.natAbs).length cy4]) [], .any false (fun u V => GaussIn V u tc1 tc2 tc3 tc4) [], .val (.bool true) [6], .val (.bool true) [], .val (.bool true) [], .val (.bool true) [], .val (.bool true) [], .val (.bool true) [], .val (.bool true) [], .val (.bool true) [], .val (.bool true) []] V13.heap.size V13 [] (fun _ _ => False) _ mixedOrders2 (Nat.le_refl _) (Below.refl _ _) (KeptV.refl _ _ _) rfl (by kernel_rfl) (by kernel_rfl) (by kernel_rfl) (by kernel_rfl) (by kernel_rfl) (by kernel_rfl) (by kernel_rfl) (by kernel_rfl) rfl (by simp [oldsF]) ?_ ?_ ?_ ?_
                  · simp only [StableF, and_true]
                    exact fun u V V' h k => h.kept k (by decide)
                  · simp only [OldsF]
                  · simp (maxSteps := 4000000) [StepsF, DepF, freeAct, fill, pairs]
                    repeat' (first | apply And.intro | (intro (u : Value)) | (intro (u : Nat)))
                    all_goals first
                    | (intro V hV hK
                       obtain ⟨PT, V_vo, -, -, -, -, -, -, -, CK, V_x, V_y, -⟩ := (F.out.below hV).h
                       obtain ⟨l_x, a_x, b_x, c_x, d_x, e_x, f_x, g_x, h_x⟩ := V_x.oct.facts
                       obtain ⟨l_y, a_y, b_y, c_y, d_y, e_y, f_y, g_y, h_y⟩ := V_y.oct.facts
                       obtain ⟨l_vo, a_vo, b_vo, c_vo, d_vo, e_vo, f_vo, g_vo, h_vo⟩ := V_vo.oct.facts
                       have kl := CK.blk.lt
                       have k0 := CK.blk.cell 0
                       simp at k0
                       clear hV hK
                       go_simp
                       first
                       | exact Below.refl _ _
                       | ((with_reducible refine (HC5.out V _ _ _ V_x.at_ V_y.at_ CK).mono ?_); rintro e w' ⟨v, rfl, hv, hb⟩; exact ⟨hv.in_, hb⟩)
                       | ((with_reducible refine (alive_true V PT).mono ?_); rintro e w' ⟨rfl, hb⟩; exact ⟨rfl, hb⟩))
                    | (intro V hV hK h1
                       obtain ⟨PT, V_vo, -, -, -, -, -, -, -, CK, V_x, V_y, -⟩ := (F.out.below hV).h
                       obtain ⟨l_x, a_x, b_x, c_x, d_x, e_x, f_x, g_x, h_x⟩ := V_x.oct.facts
                       obtain ⟨l_y, a_y, b_y, c_y, d_y, e_y, f_y, g_y, h_y⟩ := V_y.oct.facts
                       obtain ⟨l_vo, a_vo, b_vo, c_vo, d_vo, e_vo, f_vo, g_vo, h_vo⟩ := V_vo.oct.facts
                       have kl := CK.blk.lt
                       have k0 := CK.blk.cell 0
                       simp at k0
                       clear hV hK
                       go_simp
                       ((with_reducible refine (sameGauss_true V _ _ V_vo.at_ h1.at_).mono ?_); rintro e w' ⟨rfl, hb⟩; exact ⟨rfl, hb⟩))
                  · simp [EndF, FactsF, freeAct, fill, pairs]
                    intro u1 V14 hV hK h1 _ _ _
                    have F := Hd (F.out.below hV)
                    clear hV hK h1
                    obtain ⟨-, -, -, -, -, -, -, -, -, -, -, -, -, HB⟩ := F.out.h
                    have HE := Hd HB
                    clear HB
                    go_wp2_with fail
                    go_ret
                    exact ⟨rfl, HE.out⟩
end Go.Proofs.YthlehkjcfhnplaaGreatDoor
