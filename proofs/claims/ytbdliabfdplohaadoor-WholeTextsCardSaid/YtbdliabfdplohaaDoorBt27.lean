/- Several texts in one: Twin2, DivRows. -/
import Derived.Test.YtbdliabfdplohaaDoorBt15
import Derived.Test.YtbdliabfdplohaaDoorBt16
import Derived.Test.YtbdliabfdplohaaDoorBt26
import Derived.Test.YtbdliabfdplohaaDoorBt20
import Derived.Test.YtbdliabfdplohaaDoorBt01
import Derived.WalkMore
import Derived.Deep.RegionWith
import Derived.Deep.RegionHeld3
import Derived.Deep.DeepCutAuto
import Derived.Deep.CutBlock
set_option maxRecDepth 100000
set_option maxHeartbeats 8000000
/- More of copies and sizes, for the laws' walks. -/
namespace Go.Proofs.YtbdliabfdplohaaDoor
open Go.RowKit

theorem TwinAt.far2 {w : World} {g g' : Nat} {xs : List Nat} (h : TwinAt w g xs) (hn : g ≠ g') (a b : Value) : TwinAt ((w.setCell ⟨g', 0, none⟩ a).setCell ⟨g', 1, none⟩ b) g xs := ⟨h.blk.far2 hn a b⟩
/- For divide of package exact: its blocks, the divisor added back. -/

theorem Row.far {w : World} {g : Nat} {zs : List Nat} (h : Row w g zs) {p : Addr} (hp : g ≠ p.block) (u : Value) : Row (w.setCell p u) g zs := ⟨h.blk.far hp u⟩

structure Rows3 (w wr : World) (gl gq gd : Nat) (zs qs ds : List Nat) : Prop where
  rl : Row wr gl zs
  rq : Row wr gq qs
  rd : Row wr gd (ds ++ [0])
  low : Below w.heap.size w wr
  nlq : gl ≠ gq
  ndq : gd ≠ gq
  nld : gl ≠ gd
  bl : w.heap.size ≤ gl
  bq : w.heap.size ≤ gq
section
variable {w wr wr' : World} {gl gq gd : Nat} {zs qs ds : List Nat}
theorem Rows3.stays (h : Rows3 w wr gl gq gd zs qs ds) (hg : wr.grownBy wr' none) : Rows3 w wr' gl gq gd zs qs ds :=
  ⟨h.rl.stays hg (by simp), h.rq.stays hg (by simp), h.rd.stays hg (by simp), h.low.grown hg h.low.size (fun k hk => by cases hk), h.nlq, h.ndq, h.nld, h.bl, h.bq⟩
theorem Rows3.setl {pre ps post : List Nat} (h : Rows3 w wr gl gq gd (pre ++ ps ++ post) qs ds) {k : Nat} (hk : k < ps.length) (d : Nat) : Rows3 w (wr.setCell ⟨gl, pre.length + k, none⟩ (.int .u32 (d : Int))) gl gq gd (pre ++ ps.set k d ++ post) qs ds :=
  ⟨h.rl.mid_set hk d, h.rq.far (Ne.symm h.nlq) _, h.rd.far (Ne.symm h.nld) _, h.low.setCell (p := ⟨gl, pre.length + k, none⟩) h.bl _, h.nlq, h.ndq, h.nld, h.bl, h.bq⟩
end

structure Dw (w wr : World) (gl gq gd r : Nat) (zl0 ds : List Nat) (Y k : Nat) (zs qs : List Nat) : Prop where
  dv : Dv zl0 zs qs Y k
  rows : Rows3 w wr gl gq gd zs qs ds
  qlen : qs.length = r

structure Backed (w wv : World) (gl gq gd : Nat) (pre ps' post qs ds : List Nat) (k c : Nat) (ps'' : List Nat) : Prop where
  len : ps''.length = ps'.length
  limbs : Limbs ps''
  rows : Rows3 w wv gl gq gd (pre ++ ps'' ++ post) qs ds
  rest : ps''.drop k = ps'.drop k
  done : val (ps''.take k) + 4294967296 ^ k * c = val (ps'.take k) + val (ds.take k)
theorem Backed.step {w wv : World} {gl gq gd : Nat} {pre ps' post qs ds ps'' : List Nat} {k c : Nat} (h : Backed w wv gl gq gd pre ps' post qs ds k c ps'') (hk : k < ps'.length) (hkd : k < ds.length) (s : Nat) (hs : s = ps'[k] + ds[k] + c) :
    Backed w (wv.setCell ⟨gl, pre.length + k, none⟩ (.int .u32 ((s % 4294967296 : Nat) : Int))) gl gq gd pre ps' post qs ds (k + 1) (s / 4294967296) (ps''.set k (s % 4294967296)) := by
  have hk2 : k < ps''.length := by rw [h.len]; exact hk
  refine ⟨by simp [h.len], limbs_set h.limbs (Nat.mod_lt _ (by omega)), h.rows.setl hk2 _, drop_set_next h.rest, ?_⟩
  rw [set_take_more hk2, add_step (zs := ps''.take k) (k := k) (by rw [List.length_take]; omega) s h.done (ps'[k] + ds[k]) (by rw [hs]), val_take_more hk, val_take_more hkd, Nat.mul_add]
  omega
end Go.Proofs.YtbdliabfdplohaaDoor
