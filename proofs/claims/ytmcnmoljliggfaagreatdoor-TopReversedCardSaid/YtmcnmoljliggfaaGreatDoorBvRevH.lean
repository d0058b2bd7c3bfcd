/- slices.Backward over a bench: its iterator's contract. -/
import Derived.Test.YtmcnmoljliggfaaGreatDoorBvRevE
import Derived.RangeFuncNested
import Derived.RangeFuncLeaves
import Derived.Shelf.Abstract
import Derived.WalkKit
import Derived.OwnWalkIn
import Derived.TacticsInMore
import Derived.LoopNIn
import Derived.LoopIn
import Derived.RangeFuncBox
import Derived.Test.YtmcnmoljliggfaaGreatDoorBvMore
namespace Go.Proofs.YtmcnmoljliggfaaGreatDoor
open Go.RowKit Go.Shelf
attribute [local go_sem] Oper.semAt_some

/-- What has come when k elements are still to come: the indices from the last down to k. -/
def came (n k : Nat) : List (Fin n) := ((List.finRange n).drop k).reverse
theorem came_full (n : Nat) : came n n = [] := by unfold came; rw [List.drop_eq_nil_of_le (by simp)]; rfl
theorem came_next {n k : Nat} (h : k < n) : came n k = came n (k + 1) ++ [⟨k, h⟩] := by
  unfold came
  rw [List.drop_eq_getElem_cons (by simpa using h), List.reverse_cons, List.getElem_finRange]
  rfl
theorem came_len (n k : Nat) : (came n k).length = n - k := by simp [came]
theorem came_zero (n : Nat) : came n 0 = (List.finRange n).reverse := rfl
/-- What a round leaves: what lay below, and the box of the slice. -/
def KpB (n₀ Bs : Nat) (W W' : World) : Prop := Below n₀ W W' ∧ W'.heap[Bs]? = W.heap[Bs]?
theorem KpB.trans {n₀ Bs : Nat} {A B C : World} (h : KpB n₀ Bs A B) (k : KpB n₀ Bs B C) : KpB n₀ Bs A C := ⟨h.1.trans k.1, k.2.trans h.2⟩

set_option maxRecDepth 100000 in
set_option maxHeartbeats 2000000 in
theorem backward_stops (n : Nat) (hn : 1 ≤ n) (l : List ERaw) (A : Option Addr) (c : Nat) (hl : l.length ≤ 4611686018427387904) (Bs n₀ : Nat) (w : World) (hBs : Bs < w.heap.size) (hn₀ : n₀ ≤ w.heap.size)
    (hc : Blk w Bs 22 #[.slice A l.length c]) (hR : Reads w n₀ 9 A l.length (cellsEL l)) :
    SeqStopsK Fence.wide n Tryz.prog 77 #[.pointer (some ⟨Bs, 0, none⟩)] (fun x : Fin l.length => #[Value.int .i64 (x.1 : Int), l[x.1].val]) (KpB n₀ Bs) (fun ys => ys = (List.finRange l.length).reverse) (fun _ => True) l.length w := fun lp J Jx W hW _ _ hY h0 => by
  have hb0 : Blk W Bs 22 #[.slice A l.length c] := hc.below hW hBs
  have hR0 := hR.below (hW.mono hn₀)
  have hs0 : n₀ ≤ W.heap.size := Nat.le_trans hn₀ hW.size
  clear hc hR hW hBs hn₀
  refine callsIn_of_wp Tryz.func77 rfl trivial ?_ rfl
  simp only [Tryz.ntmps77, List.size_toArray, List.length_cons, List.length_nil, Nat.reduceAdd, Nat.reduceSub, Array.replicate_succ, Array.replicate_zero, List.push_toArray, List.append_toArray, List.nil_append, List.cons_append]
  have cb0 := hb0.cell 0
  simp at cb0
  gi_wp2
  clear cb0
  gi_loopw [3] (fun s wr => ∃ k : Nat, k ≤ l.length ∧ s = .int .i64 ((k : Int) - 1) ∧ J (came l.length k) wr ∧ KpB n₀ Bs W wr) (fun s _ => (intOf s + 1).toNat)
  case atStart => exact ⟨l.length, Nat.le_refl _, by first | rfl | go_num, by rw [came_full]; exact h0, Below.refl _ _, rfl⟩
  case round =>
    obtain ⟨k, hk, hs, hJs, hnx⟩ := hrel
    have cb1 : Blk wr Bs 22 #[.slice A l.length c] := hnx.2.trans hb0
    have cb := cb1.cell 0
    simp at cb
    cases k with
    | zero =>
      rw [show ((0 : Nat) : Int) - 1 = -1 from rfl] at hs
      subst hs
      gi_wp2
      go_end0
      exact ⟨⟨_, rfl⟩, .inl ⟨_, came_zero _, hJs⟩⟩
    | succ k =>
      rw [show ((k + 1 : Nat) : Int) - 1 = (k : Int) by omega] at hs
      subst hs
      have a0 : (0 : Int) ≤ (k : Int) := by omega
      have a1 : (k : Int) < (l.length : Int) := by omega
      obtain ⟨e0, e1, e2, e3, e4, e5, e6, e7, e8⟩ := cellsEL_get l k hk
      obtain ⟨ad, rfl, hbl, c0, c1, c2, c3, c4, c5, c6, c7, c8⟩ := (hR0.below hnx.1).row9 hk e0 e1 e2 e3 e4 e5 e6 e7 e8
      obtain ⟨fn, tmps, assign, body, hy, hRn⟩ := hY (came l.length (k + 1)) ⟨k, hk⟩ wr hJs (by rw [came_len]; omega)
      dsimp only [ERaw.val] at hy
      clear e0 e1 e2 e3 e4 e5 e6 e7 e8 hbl hY
      gi_wp2
      refine hRn.mono ?_
      rintro e W3 (⟨rfl, hJ3, hk3⟩ | ⟨rfl, hJx3⟩)
      · gi_wp2
        go_roundw
        case rel => exact ⟨k, by omega, by first | rfl | go_num, by rw [came_next hk]; exact hJ3, hnx.trans hk3⟩
        case measure => simp [intOf]
      · gi_wp2
        refine bodyPost_ret (results_none rfl _ _ _) rfl ?_
        exact ⟨⟨_, rfl⟩, .inr ⟨_, trivial, hJx3⟩⟩
end Go.Proofs.YtmcnmoljliggfaaGreatDoor

/- bench.Reverse. (Written by wip/top/genrevg.py.) -/
namespace Go.Proofs.YtmcnmoljliggfaaGreatDoor
open Go.RowKit Go.Shelf
attribute [local go_sem] Oper.semAt_some

theorem backward_w (a : Option Addr) (n c : Nat) (w : World) :
    Calls Tryz.prog 50 #[.slice a n c] w fun e w' => e = .returned (.func (.func 77) #[] #[.pointer (some ⟨w.heap.size, 0, none⟩)]) ∧ w' = w.alloc (.cells #[.slice a n c] 22) := by
  have hmf : ∀ (fn : Fn) (first cap : Array Value) (w : World), (Instr.makeFunc fn first cap).run Tryz.prog w = .ok (.func fn first cap) w := fun _ _ _ _ => rfl
  go_enter Tryz.func50, Tryz.ntmps50
  go_wp2_with fail
  go_ret
  exact ⟨rfl, rfl⟩
theorem val_cells (x : ERaw) : CellsN x.val 9 := ⟨rfl, by simp [ERaw.val, Value.cells, Value.oneCell']⟩
theorem elParts : (Tryz.prog.info? 65).map (fun i => (i.zero, i.size, i.bytes)) = some (some (.agg #[.int .u8 0, .bool false, .slice none 0 0, .bool false, .slice none 0 0, .bool false, .slice none 0 0, .bool false, .slice none 0 0]), 9, 136) := by kernel_rfl
theorem keeps_below {B : Nat} {W W' : World} (h : Below W.heap.size W W') : KeepsFrom B W W' := ⟨h.size, fun k _ _ hk _ => (h.block k (Array.getElem?_eq_some_iff.1 hk).1).trans hk⟩
/-- Between two rounds: out, the box of the slice, what has come. -/
structure RevI (n₀ : Nat) (w1 : World) (l : List ERaw) (A : Option Addr) (c : Nat) (pre : List (Fin l.length)) (W : World) : Prop where
  form : ∃ v, Blk W n₀ 22 #[v] ∧ GrowE W (n₀ + 2) v (pre.map fun x => l[x.1])
  box : Blk W (n₀ + 1) 22 #[.slice A l.length c]
  bel : Below n₀ w1 W
  size : n₀ + 2 ≤ W.heap.size
theorem RevI.below {n₀ : Nat} {w1 W W' : World} {l : List ERaw} {A : Option Addr} {c : Nat} {pre : List (Fin l.length)} (h : RevI n₀ w1 l A c pre W) (hb : Below W.heap.size W W') : RevI n₀ w1 l A c pre W' := by
  obtain ⟨v, h1, h2⟩ := h.form
  have hs := h.size
  exact ⟨⟨v, h1.below hb h1.lt, h2.below hb⟩, h.box.below hb h.box.lt, h.bel.trans (hb.mono (by omega)), Nat.le_trans hs hb.size⟩
theorem RevI.nc {n₀ : Nat} {w1 W W' : World} {l : List ERaw} {A : Option Addr} {c : Nat} {pre : List (Fin l.length)} {row : Option Nat} (h : RevI n₀ w1 l A c pre W) (k : NC W W' row) (hr : ∀ r, row = some r → n₀ + 2 ≤ r) : RevI n₀ w1 l A c pre W' := by
  obtain ⟨v, h1, h2⟩ := h.form
  have hs := h.size
  exact ⟨⟨v, h1.nc k, h2.nc k⟩, h.box.nc k, h.bel.grown k.1 (by omega) (fun r e => by have := hr r e; omega), Nat.le_trans hs k.1.size⟩
/-- The steps of a round behind the append. -/
structure RevF (n₀ : Nat) (w1 : World) (l : List ERaw) (A : Option Addr) (c : Nat) (pre : List (Fin l.length)) (W : World) (u : Value) (W' : World) : Prop where
  out : ∃ v, Blk W' n₀ 22 #[v]
  row : GrowE W' (n₀ + 2) u (pre.map fun x => l[x.1])
  box : Blk W' (n₀ + 1) 22 #[.slice A l.length c]
  bel : Below n₀ W W'
  keep : KeepsFrom (n₀ + 2) W W'
theorem RevF.stored {n₀ : Nat} {w1 W W' : World} {l : List ERaw} {A : Option Addr} {c : Nat} {pre : List (Fin l.length)} {u : Value} (hs : n₀ + 2 ≤ W.heap.size) (h0 : Below n₀ w1 W) (hbox : Blk W (n₀ + 1) 22 #[.slice A l.length c]) (h : RevF n₀ w1 l A c pre W u W') :
    KeepsFrom (n₀ + 2) W (W'.setCell ⟨n₀, 0, none⟩ u) ∧ KpB n₀ (n₀ + 1) W (W'.setCell ⟨n₀, 0, none⟩ u) ∧ RevI n₀ w1 l A c pre (W'.setCell ⟨n₀, 0, none⟩ u) := by
  obtain ⟨v, hv⟩ := h.out
  have hsz : (W'.setCell ⟨n₀, 0, none⟩ u).heap.size = W'.heap.size := by simp
  have hbl : Below n₀ W (W'.setCell ⟨n₀, 0, none⟩ u) := h.bel.setCell (p := ⟨n₀, 0, none⟩) (Nat.le_refl _) u
  have hfar : ∀ k, k ≠ n₀ → (W'.setCell ⟨n₀, 0, none⟩ u).heap[k]? = W'.heap[k]? := fun k hk => Below.heap_setCell _ ⟨n₀, 0, none⟩ u k hk
  have hb2 : Blk (W'.setCell ⟨n₀, 0, none⟩ u) (n₀ + 1) 22 #[.slice A l.length c] := (hfar _ (by omega)).trans h.box
  have h3 := hv.set_ 0 u
  have hk : KeptV 0 [22] W' (W'.setCell ⟨n₀, 0, none⟩ u) := KeptV.setCells hv (List.mem_singleton.2 rfl) (Nat.zero_le _) 0 [u]
  refine ⟨h.keep.trans ((KeepsOthers.setCell _ _ _).from _), ⟨hbl, hb2.trans hbox.symm⟩, ⟨u, ?_, h.row.kept hk (by decide) (by decide)⟩, hb2, h0.trans hbl, Nat.le_trans hs hbl.size⟩
  simpa using h3

theorem rev_map (l : List ERaw) : ((List.finRange l.length).reverse.map fun x => l[x.1]) = l.reverse := by
  rw [List.map_reverse]
  congr 1
  apply List.ext_getElem
  · simp
  · intro i h1 h2
    simp
theorem GrowE.base {w : World} {b b' : Nat} {v : Value} {es : List ERaw} (h : GrowE w b v es) (hb : b' ≤ b) : GrowE w b' v es := by
  obtain ⟨l, h1, h2⟩ := h.form
  refine ⟨l, ⟨h1.1, h1.2.imp id ?_⟩, h2⟩
  rintro ⟨g, cap, cur, a1, a2, a3⟩
  exact ⟨g, cap, cur, a1, Nat.le_trans hb a2, a3⟩
theorem EOk.below {w w' : World} {y x : ERaw} (h : EOk w y x) (hb : Below w.heap.size w w') : EOk w' y x := h.kept (Ts := []) (KeptV.of_below (B := 0) hb) (by simp)
theorem copied_e {x : ERaw} (hc : CanE x) (l1 : lz x.p.num ≤ 400000000) (l2 : lz x.p.den ≤ 400000000) (l3 : lz x.q.num ≤ 400000000) (l4 : lz x.q.den ≤ 400000000) (W : World) (hi : x.In W) :
    Calls Tryz.prog 51 #[.agg #[.int .u8 x.kind, .bool x.p.n1, .slice x.p.A x.p.xs.length x.p.c, .bool x.p.n2, .slice x.p.B x.p.ys.length x.p.e, .bool x.q.n1, .slice x.q.A x.q.xs.length x.q.c, .bool x.q.n2, .slice x.q.B x.q.ys.length x.q.e]] W fun e w' => ∃ y : ERaw, e = .returned y.val ∧ EOk w' y x ∧ Below W.heap.size W w' := by
  obtain ⟨⟨c1, c2, c3, c4⟩, c5, c6, c7, c8⟩ := id hc
  obtain ⟨⟨r1, r2⟩, r3, r4⟩ := hi
  rw [c3] at r1
  rw [c4] at r2
  rw [c7] at r3
  rw [c8] at r4
  have C := copied_w (k := x.kind) (copy_q l1 l2) (copy_q l3 l4) W ⟨_, _, _, _, rfl, r1, r2⟩ ⟨_, _, _, _, rfl, r3, r4⟩
  rw [← c1, ← c2, ← c3, ← c4, ← c5, ← c6, ← c7, ← c8] at C
  refine C.mono ?_
  rintro e w' ⟨v, rfl, hv, hb⟩
  obtain ⟨y, rfl, hy⟩ := hv.raw hc
  exact ⟨y, rfl, hy, hb⟩

set_option maxRecDepth 100000 in
set_option maxHeartbeats 4000000 in
theorem reverse_good (l : List ERaw) (A : Option Addr) (c : Nat) (w : World) (hB : BenchIn w w.heap.size A l) (hl : l.length ≤ 4096) (hm : ∀ x ∈ l, x.may = true) (hs : ∀ x ∈ l, x.lens ≤ 400000000)
    (C : Calls Tryz.prog 28 #[.slice A l.length c] w fun e w' => e = .returned (.int .i64 0) ∧ Below w.heap.size w w') :
    Calls Tryz.prog 21 #[.slice A l.length c] w fun e w' => ∃ v, e = .returned (.tuple #[v, .int .i64 0]) ∧ GrowE w' 0 v l.reverse ∧ Below w.heap.size w w' := by
  obtain ⟨i0, hi, hz0, hz1, hz2⟩ := info_parts elParts
  have HI := Lib.hid (And.intro hi (And.intro hz0 (And.intro hz1 hz2)))
  clear hi hz0 hz1 hz2
  have H1 := Lib.hid C
  have HB0 := Lib.hid hB
  have HM := Lib.hid hm
  have HS := Lib.hid hs
  clear C hB hm hs
  refine (callsIn_wide (n := 20)).1 ?_
  refine callsIn_of_wp_marks Tryz.func21 rfl trivial ?_ rfl
  simp only [Tryz.ntmps21, List.size_toArray, List.length_cons, List.length_nil, Nat.reduceAdd, Nat.reduceSub, Array.replicate_succ, Array.replicate_zero, List.push_toArray, List.append_toArray, List.nil_append, List.cons_append]
  gi_wp2_with (first | (refine ⟨trivial, ?_⟩; gi_at_call 28; refine (callsIn_wide.2 H1.out).mono ?_; rintro e w1 ⟨rfl, hb1⟩; have HB1 := Lib.hid hb1; clear hb1) | (refine ⟨trivial, ?_⟩; gi_at_call 50; refine (callsIn_wide.2 (backward_w _ _ _ _)).mono ?_; rintro e w2 ⟨rfl, rfl⟩))
  have bO := (Boxed.new w1 22 (.slice none 0 0)).alloc (.cells #[.slice A l.length c] 22)
  have bN := Boxed.new (w1.alloc (.cells #[.slice none 0 0] 22)) 22 (.slice A l.length c)
  rw [World.size_alloc] at bN
  have hb0 : Below w1.heap.size w1 ((w1.alloc (.cells #[.slice none 0 0] 22)).alloc (.cells #[.slice A l.length c] 22)) := ((Below.refl _ w1).alloc (Nat.le_refl _) _).alloc (by simp) _
  have hsz : ((w1.alloc (.cells #[.slice none 0 0] 22)).alloc (.cells #[.slice A l.length c] 22)).heap.size = w1.heap.size + 2 := by simp
  obtain ⟨W0, hW0⟩ : ∃ W0, (w1.alloc (.cells #[.slice none 0 0] 22)).alloc (.cells #[.slice A l.length c] 22) = W0 := ⟨_, rfl⟩
  rw [hW0] at bO bN hb0 hsz ⊢
  clear hW0
  have hR : Reads W0 w1.heap.size 9 A l.length (cellsEL l) := ((HB0.out.below HB1.out).row.below (hb0.mono (by have := HB1.out.size; omega))).more (by have := HB1.out.size; omega)
  have hI0 : RevI w1.heap.size w1 l A c [] W0 := ⟨⟨_, bO, GrowE.nil _ _⟩, bN, hb0, by omega⟩
  have hseq := backward_stops (20 - 1) (by omega) l A c (by omega) (w1.heap.size + 1) w1.heap.size W0 (by omega) (by omega) bN hR
  refine wpIn_rangeFunc_ownH (F := Fence.wide) rfl (by omega) (gf := 77) (lb := #[.pointer (some ⟨w1.heap.size + 1, 0, none⟩)]) rfl trivial (enters_of Tryz.func77 (by kernel_rfl) rfl)
    hseq KpB.trans (fun W r o o' hr ho hc hw => ⟨(Below.refl w1.heap.size W).grown (grownBy_putObj' W r o') (by have := (Array.getElem?_eq_some_iff.1 ho).1; omega) (fun k e => by cases e; omega), World.putObj_heap_other (by omega)⟩) (Below.refl _ _) (fun _ => rfl)
    (RevI w1.heap.size w1 l A c) (fun _ _ _ => False)
    (fun pre X Y row hs hg hr => hs.nc ⟨hg, fun r e => (hr r e).2⟩ (fun r e => by have := (hr r e).1; omega))
    (fun _ _ _ _ _ hs _ _ => hs)
    hI0
    (fun x a' W => ∃ Bx, w1.heap.size + 1 < Bx ∧ Blk W Bx 65 #[.int .u8 l[x.1].kind, .bool l[x.1].p.n1, .slice l[x.1].p.A l[x.1].p.xs.length l[x.1].p.c, .bool l[x.1].p.n2, .slice l[x.1].p.B l[x.1].p.ys.length l[x.1].p.e, .bool l[x.1].q.n1, .slice l[x.1].q.A l[x.1].q.xs.length l[x.1].q.c, .bool l[x.1].q.n2, .slice l[x.1].q.B l[x.1].q.ys.length l[x.1].q.e] ∧ a' = { tmps := #[.slice A l.length c, undef, .slice none 0 0, .int .i64 0, .int .i64 0, .pointer (some ⟨w1.heap.size, 0, none⟩), undef, .pointer (some ⟨Bx, 0, none⟩), .slice A l.length c, .int .i64 0, .int .i64 0, .bool false, undef, .slice A l.length c, .func (.func 77) #[] #[.pointer (some ⟨w1.heap.size + 1, 0, none⟩)], .int .i64 (x.1 : Int), l[x.1].val, undef, undef, undef, undef, undef, undef], defers := [] })
    (fun x a' _ X Y row hs hg hr => by obtain ⟨Bx, h1, h2, h3⟩ := hs; exact ⟨Bx, h1, h2.nc ⟨hg, fun r e => (hr r e).2⟩, h3⟩)
    ?assign ?body ?done ?stop
  case assign =>
    intro r pre x W K hi hK
    gi_wp2_with (refine wpListIn_store_N rfl 65 _ _ (by rfl) (by rfl) W.heap.size _ _ 9 (by rfl) (by rfl) (Blk.new W _ _) rfl (val_cells _) elInfo ?_; intro w2 hput)
    have hbw := hput.below ((Below.refl W.heap.size W).alloc (Nat.le_refl _) (.cells #[.int .u8 0, .bool false, .slice none 0 0, .bool false, .slice none 0 0, .bool false, .slice none 0 0, .bool false, .slice none 0 0] 65)) (Nat.le_refl _)
    have hi2 := hi.below hbw
    have hsw := hi.size
    have hbk := hput.blk
    simp [Value.cells, ERaw.val] at hbk
    exact hK _ _ (keeps_below hbw) ⟨hbw.mono (by omega), hi2.box.trans hi.box.symm⟩ hi2 ⟨W.heap.size, by omega, hbk, rfl⟩
  case body =>
    rintro r pre x a' W hr ⟨rec, hrec⟩ hi ⟨Bx, hBx, hbx, rfl⟩ hlt
    have hmem : l[x.1] ∈ l := List.getElem_mem _
    have hin : l[x.1].In W := (HB0.out.els _ hmem).below (belowTo HB1.out hi.bel)
    obtain ⟨hcan, b1, b2, b3, b4⟩ := canon_of hin (HM.out _ hmem)
    have b0 := HS.out _ hmem
    have CE := Lib.hid (fun V (hV : Below W.heap.size W V) => copied_e hcan (by omega) (by omega) (by omega) (by omega) V (hin.below hV))
    clear hin hcan b0 b1 b2 b3 b4 hmem
    have HBX := Lib.hid hbx
    obtain ⟨v, hv, hg⟩ := hi.form
    have HV := Lib.hid hv
    have HG := Lib.hid hg
    have HN := Lib.hid hi
    have hsw := hi.size
    clear hbx hv hg hi
    refine wpIn_block ?_
    refine wpIn_region_stepsC (fun _ _ h => h) (noDefer_of (by kernel_rfl)) [.val v, .val (.agg #[.int .u8 l[x.1].kind, .bool l[x.1].p.n1, .slice l[x.1].p.A l[x.1].p.xs.length l[x.1].p.c, .bool l[x.1].p.n2, .slice l[x.1].p.B l[x.1].p.ys.length l[x.1].p.e, .bool l[x.1].q.n1, .slice l[x.1].q.A l[x.1].q.xs.length l[x.1].q.c, .bool l[x.1].q.n2, .slice l[x.1].q.B l[x.1].q.ys.length l[x.1].q.e]), .step, .step, .step, .step] 2 4 W.heap.size W (Nat.le_refl _)
      (fun us V => match us with
        | [] => GrowE V (w1.heap.size + 2) v (pre.map fun x => l[x.1])
        | [u0] => GrowE V (w1.heap.size + 2) v (pre.map fun x => l[x.1]) ∧ ∃ y : ERaw, u0 = y.val ∧ EOk V y l[x.1]
        | [_, u1] => GrowE V (w1.heap.size + 2) v (pre.map fun x => l[x.1]) ∧ ∃ (y : ERaw) (g : Nat), u1 = .slice (some ⟨g, 0, none⟩) 1 1 ∧ Reads V V.heap.size 9 (some ⟨g, 0, none⟩) 1 y.cells ∧ EOk V y l[x.1]
        | _ => False)
      (fun us V => match us with
        | [_, _, u2] => RevF w1.heap.size w1 l A c (pre ++ [x]) W u2 V
        | [_, _, _, _] => KeepsFrom (w1.heap.size + 2) W V ∧ KpB w1.heap.size (w1.heap.size + 1) W V ∧ RevI w1.heap.size w1 l A c (pre ++ [x]) V
        | _ => False) _ mixedOrders2 (by kernel_rfl) (by kernel_rfl) (by kernel_rfl) (by kernel_rfl) (by kernel_rfl) (by kernel_rfl) (by kernel_rfl) (by kernel_rfl) (by kernel_rfl) rfl ?_ (Below.refl _ _) (HG.out.below ((Below.refl _ _).drew)) ?_ ?_ ?_
    · intro us V V' hg hb
      match us, hg with
      | [], hg => exact GrowE.below hg hb
      | [u0], ⟨h1, y, h2, h3⟩ => exact ⟨h1.below hb, y, h2, h3.below hb⟩
      | [_, u1], ⟨h1, y, g, h2, h3, h4⟩ => exact ⟨h1.below hb, y, g, h2, (h3.below hb).more hb.size, h4.below hb⟩
    · simp [ValsOk, chainAct2, fill, pairs, valAt2, stepNo]
      constructor
      · intro V hV
        have a1 := (HV.out.below hV HV.out.lt).cell 0
        simp at a1
        clear hV
        go_simp
        exact Below.refl _ _
      · intro V hV
        obtain ⟨-, a0, a1, a2, a3, a4, a5, a6, a7, a8⟩ := (Nine.mk (HBX.out.below hV HBX.out.lt)).facts
        clear hV
        go_simp
        exact Below.refl _ _
    · simp [StepsOk, chainAct2, fill, pairs, valAt2, stepNo, List.filter, Stp.isStep]
      refine ⟨fun V hV hr2 => ?_, fun u0 => ⟨fun V hV hr2 y hu hy => ?_, fun u1 => ⟨fun V hV hr2 y g hu hrd hy => ?_, fun u2 V hF => ?_⟩⟩⟩
      · have C := Lib.hid (CE.out V hV)
        go_simp
        refine C.out.mono ?_
        rintro e w' ⟨y, rfl, hy, hb⟩
        exact ⟨hV.trans (hb.mono hV.size), hr2.below hb, y, rfl, hy⟩
      · subst hu
        unfold ERaw.val
        have hbv := (Below.refl V.heap.size V).alloc (Nat.le_refl _) (.cells y.cells.toArray 65)
        go_simp
        exact ⟨hV.alloc hV.size _, hr2.below hbv, y, Reads.new1 V _ 9 _ rfl, hy.below hbv⟩
      · subst hu
        obtain ⟨hi0, hz0, hz1, hz2⟩ := HI.out
        have hsz2 := hV.size
        obtain ⟨l', h1, h2⟩ := hr2.form
        have hlen : l'.length = pre.length := by rw [h2.len, List.length_map]
        refine wp_append_any V (.tmp 17) (.tmp 20) _ rfl (w1.heap.size + 2) 65 i0 _ 9 136 Tryz.underlying22 hi0 hz0 hz1 hz2 rfl (by omega) v l'.length (cellsEL l') rfl h1 V.heap.size (some ⟨g, 0, none⟩) 1 1 y.cells rfl hrd (by simp [ERaw.cells, FRaw.cells, Value.oneCell']) (by unfold maxLen; omega) (by omega) (by omega) ?_
        intro v' w' ho hg hat
        have hne : ∀ k, v.ownBlock = some k → w1.heap.size + 2 ≤ k := fun k hk => (h1.lt k hk).1
        have far : ∀ k, k < V.heap.size → k < w1.heap.size + 2 → w'.heap[k]? = V.heap[k]? := fun k h3 h4 => hg.block k h3 fun e => by have := hne k e.symm; omega
        refine ⟨v', rfl, ⟨v, (far _ (by omega) (by omega)).trans (HV.out.below hV HV.out.lt)⟩, ?_, (far _ (by omega) (by omega)).trans (HN.out.box.below hV HN.out.box.lt), (hV.mono (by omega)).grown hg (by omega) (fun k hk => by have := hne k hk; omega), (keeps_below hV).trans ((KeepsOthers.of_grownBy hg fun j o ej hj => ?_).from _)⟩
        · rw [List.map_append, List.map_cons, List.map_nil]
          exact GrowE.more hy h1 h2 ho hg
        · rcases h1.2 with ⟨rfl, _⟩ | ⟨g2, cap, cur, rfl, _, hgb, _⟩
          · simp [Value.ownBlock] at ej
          · obtain rfl : g2 = j := by simpa [Value.ownBlock] using ej
            rw [hgb] at hj; cases hj; rfl
      · obtain ⟨l', h1, h2⟩ := hF.row.form
        obtain ⟨A1, k1, rfl⟩ := own_form (by omega) h1
        have H9 := Lib.hid (hF.stored hsw HN.out.bel HN.out.box)
        obtain ⟨v9, hv9⟩ := hF.out
        have q1 := hv9.cell 0
        have q2 := hv9.frozen 0
        simp at q1
        clear hF hv9 h1 h2
        go_simp
        exact H9.out
    · intro us V hus hF
      rw [if_neg (by decide)] at hF
      obtain ⟨u0, u1, u2, u3, rfl⟩ : ∃ u0 u1 u2 u3, us = [u0, u1, u2, u3] := by
        match us, hus with
        | [u0, u1, u2, u3], _ => exact ⟨u0, u1, u2, u3, rfl⟩
      have hF2 : KeepsFrom (w1.heap.size + 2) W V ∧ KpB w1.heap.size (w1.heap.size + 1) W V ∧ RevI w1.heap.size w1 l A c (pre ++ [x]) V := hF
      show KeepsFrom W0.heap.size W V ∧ _
      rw [hsz]
      exact hF2
  case done =>
    rintro D ys W hD rfl hi hK
    have hn : NC W (W.putObj D (.deferred none)) (some D) := ⟨grownBy_putObj' W D _, fun r e => by cases e; exact ⟨_, hK, rfl⟩⟩
    have hi2 := hi.nc hn (fun r e => by cases e; omega)
    obtain ⟨v, hv, hg⟩ := hi.form
    rw [rev_map] at hg
    have HG := Lib.hid ((hg.base (Nat.zero_le _)).nc hn)
    have HB9 := Lib.hid (belowTo HB1.out hi2.bel)
    obtain ⟨l', h1, h2⟩ := hg.form
    obtain ⟨A1, k1, rfl⟩ := own_form (by omega) h1
    have q1 := hv.cell 0
    simp at q1
    clear hv hg h1 h2 hi hi2 hn
    gi_wp2
    refine ⟨by simp, .inl ⟨_, _, rfl, run_takeDeferred hK, ?_⟩⟩
    exact ⟨_, by simp [results, Tryz.f21, go_sem], _, rfl, HG.out, HB9.out⟩
  case stop =>
    rintro D t pre W _ _ h _
    exact h.elim
end Go.Proofs.YtmcnmoljliggfaaGreatDoor

/- turned, Reverse, Trace for TopReversed's walk. -/
namespace Go.Proofs.YtmcnmoljliggfaaGreatDoor
open Go.RowKit

theorem turnray_q {q : Rat × Rat} (F : FineR q) (V : World) (v : Value) (h : RAt V v q) : Calls Tryz.prog 23 #[v] V fun e w' => ∃ v', e = .returned v' ∧ RIn w' v' (turnR q) ∧ Below V.heap.size V w' := by
  have C2 : SgnF 56 q.2.num q.2.den q.2.num.sign := fun V v g => by
    obtain ⟨A, c, B, e0, rfl, h1, h2⟩ := g.form
    exact frac_Sign_good _ _ _ A B c e0 V h1 h2 F.u.chk rfl
  have up : ∀ {z : Int}, lz z ≤ 2048 → lz z ≤ 1048576 := fun h => by omega
  have C1 := fun (V : World) (v : Value) (g : GaussAt V v q.1.num q.1.den q.2.num q.2.den) => twinray_w (twinfrac_i (up F.y.num) (up F.y.den)) (twinfrac_i (up F.u.num) (up F.u.den)) V v g
  by_cases h0 : q.2.num.sign = 0
  · have h1 : q.2.num = 0 := Int.sign_eq_zero_iff_zero.1 h0
    have h2 : -q.2 = q.2 := by rw [Rat.num_eq_zero.1 h1]; rfl
    have h3 : turnR q = q := by unfold turnR; rw [h2]
    rw [h3]
    exact turned_zero rfl h0 C1 C2 V v h
  · have h1 := turned_not rfl h0 C1 C2 V v h
    refine h1.mono ?_
    rintro e w' ⟨u, rfl, hu, hb⟩
    refine ⟨u, rfl, ?_, hb⟩
    show GaussIn w' u q.1.num q.1.den (-q.2).num (-q.2).den
    rw [Rat.neg_num, Rat.neg_den]
    exact hu

set_option maxRecDepth 100000 in
set_option maxHeartbeats 1000000 in
theorem reverse_bad (l : List ERaw) (A : Option Addr) (c : Nat) (k : Int) (hk : k ≠ 0) (w : World)
    (C : Calls Tryz.prog 28 #[.slice A l.length c] w fun e w' => e = .returned (.int .i64 k) ∧ Below w.heap.size w w') :
    Calls Tryz.prog 21 #[.slice A l.length c] w fun e w' => ∃ v, e = .returned (.tuple #[v, .int .i64 k]) ∧ Below w.heap.size w w' := by
  have H1 := Lib.hid C
  have z : (k == 0) = false := beq_eq_false_iff_ne.2 hk
  clear C hk
  go_enter Tryz.func21, Tryz.ntmps21
  go_wp2_with fail
  refine H1.out.mono ?_
  rintro e w1 ⟨rfl, hb⟩
  have HB := Lib.hid hb
  clear hb H1
  go_wp2_with fail
  go_ret2
  exact ⟨_, rfl, HB.out⟩
theorem sumL_mem {l : List ERaw} {x : ERaw} (hx : x ∈ l) : x.lens + 2 ≤ sumL l := by
  induction l with
  | nil => cases hx
  | cons y l ih =>
    unfold sumL at ih ⊢
    rw [List.map_cons, List.sum_cons]
    rcases List.mem_cons.1 hx with rfl | hx
    · omega
    · have := ih hx
      omega
theorem sumL_reverse (l : List ERaw) : sumL l.reverse = sumL l := by
  unfold sumL
  rw [List.map_reverse, List.sum_reverse]
/-- What Reverse hands back, at any bench. -/
def RetRev (w : World) (l : List ERaw) (k : Int) (e : Ending) (w' : World) : Prop := ∃ v, e = .returned (.tuple #[v, .int .i64 k]) ∧ (k = 0 → GrowE w' 0 v l.reverse) ∧ Below w.heap.size w w'
theorem reverse_w (l : List ERaw) (A : Option Addr) (c : Nat) (V : World) (hl : l.length ≤ 4611686018427387904) (hs : sumL l ≤ 2000000) (hB : BenchIn V V.heap.size A l) :
    Calls Tryz.prog 21 #[.slice A l.length c] V (RetRev V l (chkB l ERaw.may)) := by
  have C := check_q l A c V (by omega) hB
  by_cases hk : chkB l ERaw.may = 0
  · rw [hk] at C ⊢
    have h4 : l.length ≤ 4096 := by
      unfold chkB at hk
      split at hk
      · cases hk
      · omega
    refine (reverse_good l A c V hB h4 (chkB_may hk) (fun x hx => by have := sumL_mem hx; omega) C).mono ?_
    rintro e w' ⟨v, rfl, h1, h2⟩
    exact ⟨v, rfl, fun _ => h1, h2⟩
  · refine (reverse_bad l A c _ hk V C).mono ?_
    rintro e w' ⟨v, rfl, h2⟩
    exact ⟨v, rfl, fun h => (hk h).elim, h2⟩
theorem chkB_len {l : List ERaw} (hk : chkB l ERaw.may = 0) : l.length ≤ 4096 := by
  unfold chkB at hk
  split at hk
  · cases hk
  · omega
theorem chkB_rev {l l' : List ERaw} (h1 : l'.length = l.reverse.length) (h2 : l'.all ERaw.may = l.reverse.all ERaw.may) : chkB l' ERaw.may = chkB l ERaw.may := by
  unfold chkB
  rw [h1, h2, List.length_reverse, List.all_reverse]
/-- Trace of the bench turned about. -/
theorem trace_rev (l : List ERaw) (q0 : Rat × Rat) (k : Int) (w : World) (v : Value) (hg : GrowE w 0 v l.reverse) (hck : chkB l ERaw.may = 0) (hs : sumL l ≤ 2000000) (F : FineR q0) (v_r : Value) (g_r : RAt w v_r q0) (hk : k = if longZ (flatR (traceR (l.map ERaw.el).reverse q0)) then 4 else 0) :
    Calls Tryz.prog 22 #[v, v_r] w (RetTr w (traceR (l.map ERaw.el).reverse q0) k) := by
  obtain ⟨A, c, l', rfl, hb, h1, h2, h3, h4⟩ := hg.bench
  have h5 : l'.map ERaw.el = (l.map ERaw.el).reverse := by rw [h2, List.map_reverse]
  have hck' : chkB l' ERaw.may = 0 := by rw [chkB_rev h1 h4]; exact hck
  rw [← h5] at hk ⊢
  exact trace_w l' A c q0 k w (chkB_len hck') hb hck' (by rw [h3, sumL_reverse]; exact hs) F v_r g_r hk
theorem fineAt {l : List El} {r : Rat × Rat} (h : ∀ q ∈ traceR l r, FineR q) (hr : FineR r) : ∀ i, i ≤ l.length → FineR (rayAt l r i)
  | 0, _ => by rw [rayAt_zero]; exact hr
  | i + 1, hi => h _ (List.mem_of_getElem? (traceR_at l r i hi))
theorem GrowR.sliceN {w : World} {base n : Nat} {v : Value} {qs : List (Rat × Rat)} (h : GrowR w base v qs) (hn : qs.length = n) : ∃ A c, v = .slice A n c := by
  subst hn
  exact h.slice
/-- Eight cells, one behind the other. -/
structure RowAt (w : World) (B : Nat) (a : Addr) (x0 x1 x2 x3 x4 x5 x6 x7 : Value) : Prop where
  lt : a.block < B
  c0 : w.cell? a = some x0
  c1 : w.cell? ⟨a.block, a.off + 1, none⟩ = some x1
  c2 : w.cell? ⟨a.block, a.off + 2, none⟩ = some x2
  c3 : w.cell? ⟨a.block, a.off + 3, none⟩ = some x3
  c4 : w.cell? ⟨a.block, a.off + 4, none⟩ = some x4
  c5 : w.cell? ⟨a.block, a.off + 5, none⟩ = some x5
  c6 : w.cell? ⟨a.block, a.off + 6, none⟩ = some x6
  c7 : w.cell? ⟨a.block, a.off + 7, none⟩ = some x7
theorem RowAt.below {w w' : World} {B : Nat} {a : Addr} {x0 x1 x2 x3 x4 x5 x6 x7 : Value} (h : RowAt w B a x0 x1 x2 x3 x4 x5 x6 x7) (hb : Below B w w') : RowAt w' B a x0 x1 x2 x3 x4 x5 x6 x7 :=
  ⟨h.lt, (hb.cell (p := a) h.lt).trans h.c0, (hb.cell (p := ⟨a.block, a.off + 1, none⟩) h.lt).trans h.c1, (hb.cell (p := ⟨a.block, a.off + 2, none⟩) h.lt).trans h.c2, (hb.cell (p := ⟨a.block, a.off + 3, none⟩) h.lt).trans h.c3, (hb.cell (p := ⟨a.block, a.off + 4, none⟩) h.lt).trans h.c4, (hb.cell (p := ⟨a.block, a.off + 5, none⟩) h.lt).trans h.c5, (hb.cell (p := ⟨a.block, a.off + 6, none⟩) h.lt).trans h.c6, (hb.cell (p := ⟨a.block, a.off + 7, none⟩) h.lt).trans h.c7⟩
theorem add_block (a : Addr) (k : Nat) : (a.add k).block = a.block := by
  unfold Addr.add
  split <;> rfl
/-- An element of it, cell by cell. -/
theorem GrowR.row {w : World} {base : Nat} {A : Option Addr} {n c : Nat} {qs : List (Rat × Rat)} (h : GrowR w base (.slice A n c) qs) (j : Nat) (q : Rat × Rat) (hq : qs[j]? = some q) : ∃ (ad : Addr) (x0 x1 x2 x3 x4 x5 x6 x7 : Value), A = some ad ∧ RowAt w w.heap.size (ad.add (j * 8)) x0 x1 x2 x3 x4 x5 x6 x7 ∧ RIn w (.agg #[x0, x1, x2, x3, x4, x5, x6, x7]) q := by
  obtain ⟨l, h1, h2⟩ := h.form
  obtain ⟨hj, e⟩ := List.getElem?_eq_some_iff.1 hq
  subst e
  obtain ⟨x, h3, h4, h5⟩ := h2.at_ j hj
  have hlen := h2.len
  have hn : n = l.length := by
    rcases h1.2 with ⟨h6, h7⟩ | ⟨g, cap, cur, h6, -⟩
    · omega
    · injection h6
  subst hn
  have hr := Reads.of_own h1
  obtain ⟨ad, e9, hbk, hc⟩ := hr.2 (by omega)
  obtain ⟨x0, x1, x2, x3, x4, x5, x6, x7, rfl⟩ : ∃ x0 x1 x2 x3 x4 x5 x6 x7, x = [x0, x1, x2, x3, x4, x5, x6, x7] := by
    match x, h4 with
    | [x0, x1, x2, x3, x4, x5, x6, x7], _ => exact ⟨_, _, _, _, _, _, _, _, rfl⟩
  refine ⟨ad, x0, x1, x2, x3, x4, x5, x6, x7, e9, ⟨by rw [add_block]; exact hbk, hc _ _ (h5 0 (by omega)), ?_, ?_, ?_, ?_, ?_, ?_, ?_⟩, h3⟩
  · rw [← add_more _ _ 1 (by omega)]; exact hc _ _ (h5 1 (by omega))
  · rw [← add_more _ _ 2 (by omega)]; exact hc _ _ (h5 2 (by omega))
  · rw [← add_more _ _ 3 (by omega)]; exact hc _ _ (h5 3 (by omega))
  · rw [← add_more _ _ 4 (by omega)]; exact hc _ _ (h5 4 (by omega))
  · rw [← add_more _ _ 5 (by omega)]; exact hc _ _ (h5 5 (by omega))
  · rw [← add_more _ _ 6 (by omega)]; exact hc _ _ (h5 6 (by omega))
  · rw [← add_more _ _ 7 (by omega)]; exact hc _ _ (h5 7 (by omega))
/-- A ray's variable, its value opaque. -/
structure RVar (w : World) (g : Nat) (cs : Array Value) (q : Rat × Rat) : Prop where
  blk : Blk w g 29 cs
  size : cs.size = 8
  at_ : RAt w (.agg cs) q
theorem RVar.below {w w' : World} {g : Nat} {cs : Array Value} {q : Rat × Rat} (h : RVar w g cs q) (hb : Below w.heap.size w w') : RVar w' g cs q := ⟨h.blk.below hb h.blk.lt, h.size, h.at_.below hb⟩
theorem RAt.isagg {w : World} {v : Value} {q : Rat × Rat} (h : RAt w v q) : ∃ cs : Array Value, v = .agg cs ∧ cs.size = 8 ∧ CellsN v 8 := by
  obtain ⟨A, c, B, e, A2, c2, B2, e2, rfl, -⟩ := h.form
  exact ⟨_, rfl, rfl, rfl, by simp [Value.cells, Value.oneCell']⟩
/-- A new variable of a ray. -/
theorem RVar.new {V w : World} {z cs : Array Value} {q : Rat × Rat} (h : RAt V (.agg cs) q) (p : PutN (V.alloc (.cells z 29)) V.heap.size 29 (.agg cs) w) : Below V.heap.size V w ∧ RVar w V.heap.size cs q := by
  have hb := p.below ((Below.refl V.heap.size V).alloc (Nat.le_refl _) (.cells z 29)) (Nat.le_refl _)
  obtain ⟨cs', e, h1, -⟩ := h.isagg
  injection e with e
  subst e
  exact ⟨hb, p.blk, h1, h.below hb⟩
/-- .. that is written anew: V is the world ahead of it. -/
theorem RVar.put {V W w : World} {b : Nat} {cs' : Array Value} {q' : Rat × Rat} (h : RIn W (.agg cs') q') (hV : Below V.heap.size V W) (hb : V.heap.size ≤ b) (p : PutN W b 29 (.agg cs') w) : Below V.heap.size V w ∧ RVar w b cs' q' := by
  have hb := p.below hV hb
  obtain ⟨cs2, e, h1, -⟩ := RAt.isagg (q := q') h.at_
  injection e with e
  subst e
  exact ⟨hb, p.blk, h1, (h.kept (p.kept 0 (Nat.zero_le _)) (by decide)).at_⟩
theorem arr8 {α : Type} {a : Array α} (h : a.size = 8) : ∃ x0 x1 x2 x3 x4 x5 x6 x7, a = #[x0, x1, x2, x3, x4, x5, x6, x7] := by
  obtain ⟨l⟩ := a
  match l, h with
  | [x0, x1, x2, x3, x4, x5, x6, x7], _ => exact ⟨_, _, _, _, _, _, _, _, rfl⟩
end Go.Proofs.YtmcnmoljliggfaaGreatDoor
