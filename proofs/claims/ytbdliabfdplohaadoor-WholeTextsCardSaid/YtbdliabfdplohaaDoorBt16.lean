/- Several texts in one: Cmp2, RefTimes. -/
import Derived.Test.YtbdliabfdplohaaDoorBt15
import Derived.Test.YtbdliabfdplohaaDoorBt12
import Derived.Test.YtbdliabfdplohaaDoorBtHd
import Derived.Test.YtbdliabfdplohaaDoorBt13
set_option maxRecDepth 100000
set_option maxHeartbeats 8000000
/- Cmp, over numbers that may be. (Written by wip/exact/gencmp.py.) -/
namespace Go.Proofs.YtbdliabfdplohaaDoor
open Go.RowKit

def ival (neg : Bool) (xs : List Nat) : Int := if neg then -(val xs : Int) else val xs
def cmpz (a b : Int) : Int := if a < b then -1 else if b < a then 1 else 0
/- times, fitting, half, even of the references. -/

theorem Row.rawN {w : World} {g : Nat} {zs : List Nat} (h : Row w g zs) (hz : Limbs zs) (hm : zs.length ≤ 9223372036854775807) : Raw w (some ⟨g, 0, none⟩) zs.length (natL (val zs)) :=
  ⟨limbs_natL _, natL_val_le hz, hm, by have := h.reads.take (natL (val zs)).length; rwa [← natL_take hz] at this⟩

theorem ref_times (A : Option Addr) (c n : Nat) (xs : List Nat) (hn : n < 4294967296) (hlx : xs.length ≤ 536870912) (w : World) (h : Raw w A c xs) :
    Calls Tryd.prog 44 #[.slice A xs.length c, .int .u32 n] w (RetN w.heap.size w (val xs * n)) := by
  have hr : Row (w.alloc (.cells #[.int .u32 n] 40)) w.heap.size [n] := ⟨Blk.new w _ _⟩
  have hl : Limbs [n] := by intro x hx; simp at hx; omega
  have hv : val [n] = n := by simp [val]
  have C1 := Hd (ref_trim (some ⟨w.heap.size, 0, none⟩) 1 [n] hl (by simp) (by omega) _ (w.alloc (.cells #[.int .u32 n] 40)) hr.reads)
  have hraw := hr.rawN hl (by simp)
  rw [hv] at hraw
  have C2 := ref_mulN A (some ⟨w.heap.size, 0, none⟩) c 1 xs (natL n) hlx (by have := natL_val_le hl; rw [hv] at this; simp at this; omega) (w.alloc (.cells #[.int .u32 n] 40)) (h.alloc _) hraw
  rw [val_natL] at C2
  have H2 := Hd C2
  rw [hv] at C1
  have hB := Hd ((Below.refl w.heap.size w).alloc (Nat.le_refl _) (.cells #[.int .u32 n] 40))
  clear hr hl hv hraw C2 h
  go_enter Tryd.func44, Tryd.ntmps44
  go_wp2_with fail
  refine C1.out.mono ?_
  rintro e w1 ⟨rfl, rfl⟩
  go_wp2_with fail
  refine H2.out.mono ?_
  rintro e w2 ⟨v, rfl, hv, hb⟩
  have HV := Hd (hv.base (b' := w.heap.size) (by simp))
  have HB := Hd (hB.out.trans (hb.mono (by simp)))
  clear hv hb C1 H2 hB
  go_wp2_with fail
  go_ret
  exact ⟨_, rfl, HV.out, HB.out⟩

end Go.Proofs.YtbdliabfdplohaaDoor
