/- Several texts in one: GBigq1. -/
import Derived.Test.YthlehkjcfhnplaaGreatDoorGn36
import Derived.Test.YthlehkjcfhnplaaGreatDoorGn33
import Derived.Test.YthlehkjcfhnplaaGreatDoorGn27
import Derived.Test.YthlehkjcfhnplaaGreatDoorGn22
import Derived.Test.YthlehkjcfhnplaaGreatDoorGn43
import Derived.Test.YthlehkjcfhnplaaGreatDoorGn14
import Derived.Test.YthlehkjcfhnplaaGreatDoorGn12
import Derived.Test.YthlehkjcfhnplaaGreatDoorGn13
import Derived.Test.YthlehkjcfhnplaaGreatDoorGn07
import Derived.Test.YthlehkjcfhnplaaGreatDoorGn08
import Derived.Test.YthlehkjcfhnplaaGreatDoorGn10
import Derived.Test.YthlehkjcfhnplaaGreatDoorGn03
import Derived.Test.YthlehkjcfhnplaaGreatDoorGn02
import Derived.Test.YthlehkjcfhnplaaGreatDoorGn01
import Derived.Test.YthlehkjcfhnplaaGreatDoorGn09
import Derived.Test.YthlehkjcfhnplaaGreatDoorGn05
import Derived.Test.YthlehkjcfhnplaaGreatDoorGn04
import Derived.Test.YthlehkjcfhnplaaGreatDoorGn06
import Derived.Test.YthlehkjcfhnplaaGreatDoorGn11
import Derived.Test.YthlehkjcfhnplaaGreatDoorGn21
import Derived.Test.YthlehkjcfhnplaaGreatDoorGn20
import Derived.Test.YthlehkjcfhnplaaGreatDoorGn42
import Derived.Test.YthlehkjcfhnplaaGreatDoorGn19
import Derived.Test.YthlehkjcfhnplaaGreatDoorGn18
import Derived.Test.YthlehkjcfhnplaaGreatDoorGn16
import Derived.Test.YthlehkjcfhnplaaGreatDoorGn15
import Derived.Test.YthlehkjcfhnplaaGreatDoorGn17
import Derived.Test.YthlehkjcfhnplaaGreatDoorGn24
import Derived.Test.YthlehkjcfhnplaaGreatDoorGn25
import Derived.Test.YthlehkjcfhnplaaGreatDoorGn26
import Derived.Test.YthlehkjcfhnplaaGreatDoorGn23
import Derived.Test.YthlehkjcfhnplaaGreatDoorGn32
import Derived.Test.YthlehkjcfhnplaaGreatDoorGn44
import Derived.Test.YthlehkjcfhnplaaGreatDoorGn30
import Derived.Test.YthlehkjcfhnplaaGreatDoorGn31
import Derived.Test.YthlehkjcfhnplaaGreatDoorGn29
import Derived.Test.YthlehkjcfhnplaaGreatDoorGn28
set_option maxRecDepth 100000
set_option maxHeartbeats 8000000
/- GaussSize, big of the laws; Check of gauss and of the references. (Written by wip/gauss/genbig.py.) -/
namespace Go.Proofs.YthlehkjcfhnplaaGreatDoor
open Go.RowKit

theorem big_2 {n1 n2 n3 n4 : Bool} {xs ys us vs : List Nat} {Ax1 Ax2 Ax3 Ax4 : Option Addr} {cx1 cx2 cx3 cx4 : Nat} {m1 m2 m3 m4 : Bool} {ps qs ks ts : List Nat} {Ay1 Ay2 Ay3 Ay4 : Option Addr} {cy1 cy2 cy3 cy4 : Nat} (b : Bool) (hx : lens4 xs ys us vs) (hy : lens4 ps qs ks ts) (hb : b = (decide (300 < 1 + xs.length + (1 + ys.length) + (1 + us.length + (1 + vs.length))) || (decide (300 < 1 + ps.length + (1 + qs.length) + (1 + ks.length + (1 + ts.length)))))) (V : World) (g : Nat) (hg : V.heap.size = g) (gx : GaussRaw V (.agg #[.bool n1, .slice Ax1 xs.length cx1, .bool n2, .slice Ax2 ys.length cx2, .bool n3, .slice Ax3 us.length cx3, .bool n4, .slice Ax4 vs.length cx4]) n1 n2 n3 n4 xs ys us vs) (gy : GaussRaw V (.agg #[.bool m1, .slice Ay1 ps.length cy1, .bool m2, .slice Ay2 qs.length cy2, .bool m3, .slice Ay3 ks.length cy3, .bool m4, .slice Ay4 ts.length cy4]) m1 m2 m3 m4 ps qs ks ts) :
    Calls Tryz.prog 25 #[.slice (some ⟨g, 0, none⟩) 2 2] (V.alloc (.cells #[.bool n1, .slice Ax1 xs.length cx1, .bool n2, .slice Ax2 ys.length cx2, .bool n3, .slice Ax3 us.length cx3, .bool n4, .slice Ax4 vs.length cx4, .bool m1, .slice Ay1 ps.length cy1, .bool m2, .slice Ay2 qs.length cy2, .bool m3, .slice Ay3 ks.length cy3, .bool m4, .slice Ay4 ts.length cy4] 28)) fun e w' => e = .returned (.bool b) ∧ Below (V.alloc (.cells #[.bool n1, .slice Ax1 xs.length cx1, .bool n2, .slice Ax2 ys.length cx2, .bool n3, .slice Ax3 us.length cx3, .bool n4, .slice Ax4 vs.length cx4, .bool m1, .slice Ay1 ps.length cy1, .bool m2, .slice Ay2 qs.length cy2, .bool m3, .slice Ay3 ks.length cy3, .bool m4, .slice Ay4 ts.length cy4] 28)).heap.size (V.alloc (.cells #[.bool n1, .slice Ax1 xs.length cx1, .bool n2, .slice Ax2 ys.length cx2, .bool n3, .slice Ax3 us.length cx3, .bool n4, .slice Ax4 vs.length cx4, .bool m1, .slice Ay1 ps.length cy1, .bool m2, .slice Ay2 qs.length cy2, .bool m3, .slice Ay3 ks.length cy3, .bool m4, .slice Ay4 ts.length cy4] 28)) w' := by
  have ha := (Below.refl V.heap.size V).alloc (Nat.le_refl _) (.cells #[.bool n1, .slice Ax1 xs.length cx1, .bool n2, .slice Ax2 ys.length cx2, .bool n3, .slice Ax3 us.length cx3, .bool n4, .slice Ax4 vs.length cx4, .bool m1, .slice Ay1 ps.length cy1, .bool m2, .slice Ay2 qs.length cy2, .bool m3, .slice Ay3 ks.length cy3, .bool m4, .slice Ay4 ts.length cy4] 28)
  have := big_list [⟨⟨n1, Ax1, xs.length, cx1, n2, Ax2, ys.length, cx2⟩, ⟨n3, Ax3, us.length, cx3, n4, Ax4, vs.length, cx4⟩⟩, ⟨⟨m1, Ay1, ps.length, cy1, m2, Ay2, qs.length, cy2⟩, ⟨m3, Ay3, ks.length, cy3, m4, Ay4, ts.length, cy4⟩⟩] b (some ⟨g, 0, none⟩) 2 (by simp) (by rw [hb]; simp only [List.any_cons, List.any_nil, Bool.or_false]; rfl) (V.alloc (.cells #[.bool n1, .slice Ax1 xs.length cx1, .bool n2, .slice Ax2 ys.length cx2, .bool n3, .slice Ax3 us.length cx3, .bool n4, .slice Ax4 vs.length cx4, .bool m1, .slice Ay1 ps.length cy1, .bool m2, .slice Ay2 qs.length cy2, .bool m3, .slice Ay3 ks.length cy3, .bool m4, .slice Ay4 ts.length cy4] 28)) (by subst hg; exact Reads.blk (Blk.new V 28 _) rfl) (fun q hq V' hV' => by
    simp only [List.mem_cons, List.not_mem_nil, or_false] at hq
    rcases hq with rfl | rfl
    · exact gauss_size hx.1.1 hx.1.2 hx.2.1 hx.2.2 V' _ ((gx.below ha).below hV')
    · exact gauss_size hy.1.1 hy.1.2 hy.2.1 hy.2.2 V' _ ((gy.below ha).below hV'))
  simpa using this

end Go.Proofs.YthlehkjcfhnplaaGreatDoor
