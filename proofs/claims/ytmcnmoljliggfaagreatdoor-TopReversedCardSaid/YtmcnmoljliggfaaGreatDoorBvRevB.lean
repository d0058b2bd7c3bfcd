/- Rows of rays; told of rays; bench.Trace. (Written by wip/top/genrevb.py.) -/
import Derived.Test.YtmcnmoljliggfaaGreatDoorBvRevA
import Derived.Test.YtmcnmoljliggfaaGreatDoorBvRevLaw
import Derived.Test.YtmcnmoljliggfaaGreatDoorBvMore
namespace Go.Proofs.YtmcnmoljliggfaaGreatDoor
open Go.RowKit

theorem wpList_append_N {P : Program} {ops : Array Oper} {rest : List Oper} {o : Oper} {a : Act} {w : World} {Q : Exit → Act → World → Prop} (hgd : o.guard = none) (s x : Operand) (t : TypeId)
    (ho : o.op = .call { callee := .builtin .append, args := #[s, x], argTypes := #[t, t] })
    (base : Nat) (e : TypeId) (i : TypeInfo) (z : Value) (size bytes : Nat) (ht : P.underlying t = some (.slice e)) (hi : P.info? e = some i) (hz : i.zero = some z)
    (hsize : i.size = size) (hby : i.bytes = bytes) (hzs : z.cells.size = size) (hsz : 0 < size)
    (v : Value) (n : Nat) (xs : List Value) (hs : a.eval s = v) (hown : w.ownsRow base e size v n xs)
    (B : Nat) (A : Option Addr) (m c : Nat) (news : List Value) (hx : a.eval x = .slice A m c) (hr : Reads w B size A m news) (h1 : ∀ u ∈ news, u.oneCell' = true)
    (h63 : n + m ≤ maxLen) (hbytes : (n + m) * bytes ≤ 140737488355328) (hbase : base ≤ w.heap.size)
    (h : ∀ v' w', w'.ownsRow base e size v' (n + m) (xs ++ news) → w.grownBy w' v.ownBlock → wpList P ops Q rest (a.put o.dst v') w') : wpList P ops Q (o :: rest) a w :=
  wpList_plain hgd fun _ hK => wp_append_any w s x t ho base e i z size bytes ht hi hz hsize hby hzs hsz v n xs hs hown B A m c news hx hr h1 h63 hbytes hbase fun v' w' a1 a2 _ => hK _ _ (h v' w' a1 a2)
theorem rayParts : (Tryz.prog.info? 29).map (fun i => (i.zero, i.size, i.bytes)) = some (some (.agg #[.bool false, .slice none 0 0, .bool false, .slice none 0 0, .bool false, .slice none 0 0, .bool false, .slice none 0 0]), 8, 128) := by kernel_rfl
/-- Rays, cell by cell. -/
def RIs (w : World) : List (List Value) → List (Rat × Rat) → Prop
  | [], [] => True
  | c :: l, q :: qs => (RIn w (.agg c.toArray) q ∧ c.length = 8) ∧ RIs w l qs
  | _, _ => False
theorem RIs.kept {B : Nat} {Ts : List TypeId} {w w' : World} (k : KeptV B Ts w w') (hT : 109 ∉ Ts) : ∀ {l : List (List Value)} {qs : List (Rat × Rat)}, RIs w l qs → RIs w' l qs
  | [], [], _ => trivial
  | _ :: _, _ :: _, h => ⟨⟨h.1.1.kept k hT, h.1.2⟩, RIs.kept k hT h.2⟩
theorem RIs.app {w : World} {c : List Value} {q : Rat × Rat} (hq : RIn w (.agg c.toArray) q) (hc : c.length = 8) : ∀ {l : List (List Value)} {qs : List (Rat × Rat)}, RIs w l qs → RIs w (l ++ [c]) (qs ++ [q])
  | [], [], _ => ⟨⟨hq, hc⟩, trivial⟩
  | _ :: _, _ :: _, h => ⟨h.1, RIs.app hq hc h.2⟩
theorem RIs.len {w : World} : ∀ {l : List (List Value)} {qs : List (Rat × Rat)}, RIs w l qs → l.length = qs.length
  | [], [], _ => rfl
  | c :: l, q :: qs, h => by rw [List.length_cons, List.length_cons, h.2.len]
theorem RIs.at_ {w : World} : ∀ {l : List (List Value)} {qs : List (Rat × Rat)}, RIs w l qs → ∀ (j : Nat) (hj : j < qs.length), ∃ c : List Value, RIn w (.agg c.toArray) qs[j] ∧ c.length = 8 ∧ ∀ i, i < 8 → l.flatten[j * 8 + i]? = c[i]?
  | [], [], _, j, hj => by simp at hj
  | c :: l, q :: qs, h, 0, _ => ⟨c, h.1.1, h.1.2, fun i hi => by
      rw [List.flatten_cons, Nat.zero_mul, Nat.zero_add, List.getElem?_append_left (by rw [h.1.2]; exact hi)]⟩
  | c :: l, q :: qs, h, j + 1, hj => by
    obtain ⟨c', h1, h2, h3⟩ := h.2.at_ j (by simpa using hj)
    refine ⟨c', h1, h2, fun i hi => ?_⟩
    rw [List.flatten_cons, List.getElem?_append_right (by rw [h.1.2]; omega), h.1.2, ← h3 i hi]
    congr 1
    omega
/-- A list of rays of the call's own. -/
structure GrowR (w : World) (base : Nat) (v : Value) (qs : List (Rat × Rat)) : Prop where
  form : ∃ l : List (List Value), w.ownsRow base 29 8 v l.length l.flatten ∧ RIs w l qs
theorem GrowR.below {w w' : World} {base : Nat} {v : Value} {qs : List (Rat × Rat)} (h : GrowR w base v qs) (hb : Below w.heap.size w w') : GrowR w' base v qs := by
  obtain ⟨l, h1, h2⟩ := h.form
  exact ⟨l, own_below h1 hb, h2.kept (Ts := []) (KeptV.of_below (B := 0) hb) (by simp)⟩
theorem own_kept {B : Nat} {Ts : List TypeId} {w w' : World} {base size n : Nat} {e : TypeId} {v : Value} {xs : List Value} (h : w.ownsRow base e size v n xs) (k : KeptV B Ts w w') (hT : e ∉ Ts) : w'.ownsRow base e size v n xs := k.own h hT
theorem GrowR.kept {B : Nat} {Ts : List TypeId} {w w' : World} {base : Nat} {v : Value} {qs : List (Rat × Rat)} (h : GrowR w base v qs) (k : KeptV B Ts w w') (h1 : 109 ∉ Ts) (h2 : 29 ∉ Ts) : GrowR w' base v qs := by
  obtain ⟨l, h3, h4⟩ := h.form
  exact ⟨l, k.own h3 h2, h4.kept k h1⟩
theorem GrowF.kept {B : Nat} {Ts : List TypeId} {w w' : World} {base : Nat} {v : Value} {zs : List (Int × Int)} (h : GrowF w base v zs) (k : KeptV B Ts w w') (h1 : 109 ∉ Ts) (h2 : 27 ∉ Ts) : GrowF w' base v zs := by
  obtain ⟨l, h3, h4⟩ := h.form
  exact ⟨l, k.own h3 h2, h4.kept k h1⟩
theorem GrowR.base {w : World} {b b' : Nat} {v : Value} {qs : List (Rat × Rat)} (h : GrowR w b v qs) (hb : b' ≤ b) : GrowR w b' v qs := by
  obtain ⟨l, h1, h2⟩ := h.form
  refine ⟨l, ⟨h1.1, h1.2.imp id ?_⟩, h2⟩
  rintro ⟨g, cap, cur, a1, a2, a3⟩
  exact ⟨g, cap, cur, a1, Nat.le_trans hb a2, a3⟩
theorem GrowR.only {B : Nat} {Ts : List TypeId} {w w' : World} {base g : Nat} {v : Value} {qs : List (Rat × Rat)} (h : GrowR w base v qs) (k : KeptV B Ts w w') (hT : 109 ∉ Ts) (ho : ∀ j, j < w.heap.size → j ≠ g → w'.heap[j]? = w.heap[j]?) (hg : g < base) : GrowR w' base v qs := by
  obtain ⟨l, h1, h2⟩ := h.form
  refine ⟨l, ⟨h1.1, h1.2.imp id ?_⟩, h2.kept k hT⟩
  rintro ⟨j, cap, cur, a1, a2, a3, a4⟩
  refine ⟨j, cap, cur, a1, a2, ?_, a4⟩
  rw [ho j (Array.getElem?_eq_some_iff.1 a3).1 (by omega)]
  exact a3
theorem GrowR.nil (w : World) (base : Nat) : GrowR w base (.slice none 0 0) [] := ⟨[], World.ownsRow_nil _ _ _ _, trivial⟩
theorem GrowR.slice {w : World} {base : Nat} {v : Value} {qs : List (Rat × Rat)} (h : GrowR w base v qs) : ∃ A c, v = .slice A qs.length c := by
  obtain ⟨l, h1, h2⟩ := h.form
  rw [← h2.len]
  exact own_form (by omega) h1
theorem GrowF.slice {w : World} {base : Nat} {v : Value} {zs : List (Int × Int)} (h : GrowF w base v zs) : ∃ A c, v = .slice A zs.length c := by
  obtain ⟨l, h1, h2⟩ := h.form
  rw [← h2.at_.len]
  exact own_form (by omega) h1
/-- An element of it. -/
theorem GrowR.get {w : World} {base : Nat} {A : Option Addr} {n c : Nat} {qs : List (Rat × Rat)} (h : GrowR w base (.slice A n c) qs) (j : Nat) (hj : j < qs.length) : ∃ (g : Nat) (x : List Value), A = some ⟨g, 0, none⟩ ∧ n = qs.length ∧ g < w.heap.size ∧ w.rangeAt g (j * 8) x ∧ x.length = 8 ∧ RIn w (.agg x.toArray) qs[j] := by
  obtain ⟨l, h1, h2⟩ := h.form
  have hlen := h2.len
  obtain ⟨x, h3, h4, h5⟩ := h2.at_ j hj
  have h6 := h1.2
  rcases h6 with ⟨h6, h7⟩ | ⟨g, cap, cur, h6, -, h7, -, -, -, h8⟩
  · omega
  · injection h6 with e1 e2 e3
    subst e1 e2
    refine ⟨g, x, rfl, hlen, (Array.getElem?_eq_some_iff.1 h7).1, fun i u hu => ?_, h4, h3⟩
    have hi : i < 8 := by
      have := (List.getElem?_eq_some_iff.1 hu).1
      omega
    have h9 := h1.cells (g := g) rfl (j * 8 + i) u (by rw [h5 i hi]; exact hu)
    rw [show (⟨g, 0, none⟩ : Addr).add (j * 8 + i) = ⟨g, j * 8 + i, none⟩ by unfold Addr.add; split <;> simp_all] at h9
    exact h9
theorem GrowR.more {w w' : World} {base : Nat} {v v' : Value} {c : List Value} {q : Rat × Rat} {qs : List (Rat × Rat)} (hq : RIn w (.agg c.toArray) q) (hc : c.length = 8) {l : List (List Value)} (h1 : w.ownsRow base 29 8 v l.length l.flatten) (h2 : RIs w l qs) (ho : w'.ownsRow base 29 8 v' (l.length + 1) (l.flatten ++ c)) (hg : w.grownBy w' v.ownBlock) : GrowR w' base v' (qs ++ [q]) := by
  have k := kept_grown h1 hg
  refine ⟨l ++ [c], ?_, (h2.kept k (by decide)).app (hq.kept k (by decide)) hc⟩
  rw [List.flatten_append, List.length_append, List.flatten_cons, List.flatten_nil, List.append_nil]
  exact ho
/-- Two fractions behind others. -/
theorem GrowF.more2 {w w' : World} {base : Nat} {v v' : Value} {p q : FLoc} {y z : Int × Int} {zs : List (Int × Int)} (hp : FracIn w 0 p.val y.1 y.2) (hq : FracIn w 0 q.val z.1 z.2) {l : List FLoc} (h1 : w.ownsRow base 27 4 v l.length (cellsF l)) (h2 : FIs w l zs) (ho : w'.ownsRow base 27 4 v' (l.length + 2) (cellsF l ++ (p.cells ++ q.cells))) (hg : w.grownBy w' v.ownBlock) : GrowF w' base v' (zs ++ [y, z]) := by
  have k := kept_grown h1 hg
  have h3 := ((h2.kept k (by decide)).app (hp.kept k (by decide))).app (hq.kept k (by decide))
  rw [List.append_assoc] at h3
  refine ⟨l ++ [p] ++ [q], ?_, by rw [List.append_assoc]; rw [List.append_assoc] at h3; exact h3⟩
  rw [cellsF_app, cellsF_app, List.length_append, List.length_append, List.append_assoc]
  exact ho
/-- A grown row's own world: what lay below stays. -/
theorem grownB {W w w' : World} {B base size n : Nat} {e : TypeId} {v : Value} {xs : List Value} (h : w.ownsRow base e size v n xs) (hg : w.grownBy w' v.ownBlock) (hb : Below B W w) (hB : B ≤ base) (hB2 : B ≤ w.heap.size) : Below B W w' := hb.grown hg hB2 fun k hk => Nat.le_trans hB (h.lt k hk).1
theorem GrowF.long {w : World} {base : Nat} {v : Value} {zs : List (Int × Int)} (h : GrowF w base v zs) (hl : zs.length ≤ 1000000) : Calls Tryz.prog 64 #[v] w fun e w' => e = .returned (.bool (longZ zs)) ∧ Below w.heap.size w w' := by
  obtain ⟨A, c, rfl⟩ := h.slice
  obtain ⟨l, h1, h2⟩ := h.form
  have hlen := h2.at_.len
  rw [← hlen] at h1 ⊢
  rw [← h2.at_.long]
  exact ratio_LongL l A c (by omega) h2.at_.small w (Reads.of_own h1)

set_option maxRecDepth 100000 in
set_option maxHeartbeats 4000000 in
theorem told_r_false {zs : List (Int × Int)} {base : Nat} {v u : Value} (hl : longZ zs = false) (hz : zs.length ≤ 1000000) (w : World) (hu : GrowF w base u zs) :
    Calls Tryz.prog 54 #[v, u] w fun e w' => e = .returned (.tuple #[v, .int .i64 0]) ∧ Below w.heap.size w w' := by
  have C := hu.long hz
  rw [hl] at C
  have H1 := Lib.hid C
  clear C hu hl hz
  go_enter Tryz.func54, Tryz.ntmps54
  go_wp2_with fail
  refine H1.out.mono ?_
  rintro e w1 ⟨rfl, hb⟩
  have HB := Lib.hid hb
  clear hb H1
  go_wp2_with fail
  go_ret2
  exact ⟨rfl, HB.out⟩

set_option maxRecDepth 100000 in
set_option maxHeartbeats 4000000 in
theorem told_r_true {zs : List (Int × Int)} {base : Nat} {v u : Value} (hl : longZ zs = true) (hz : zs.length ≤ 1000000) (w : World) (hu : GrowF w base u zs) :
    Calls Tryz.prog 54 #[v, u] w fun e w' => e = .returned (.tuple #[.slice none 0 0, .int .i64 4]) ∧ Below w.heap.size w w' := by
  have C := hu.long hz
  rw [hl] at C
  have H1 := Lib.hid C
  clear C hu hl hz
  go_enter Tryz.func54, Tryz.ntmps54
  go_wp2_with fail
  refine H1.out.mono ?_
  rintro e w1 ⟨rfl, hb⟩
  have HB := Lib.hid hb
  clear hb H1
  go_wp2_with fail
  go_ret2
  exact ⟨rfl, HB.out⟩

/-- What Trace answers of a bench and a ray that may be. -/
def RetTr (w : World) (qs : List (Rat × Rat)) (k : Int) (e : Ending) (w' : World) : Prop := ∃ v, e = .returned (.tuple #[v, .int .i64 k]) ∧ (k = 0 → GrowR w' w.heap.size v qs) ∧ Below w.heap.size w w'
/-- The ray's variable of Trace. -/
structure RayV (W w : World) (g : Nat) (v : Value) (q : Rat × Rat) : Prop where
  blk : Blk w g 29 v.cells
  at_ : RIn w v q ∨ RAt W v q
  agg : ∃ cs : Array Value, v = .agg cs ∧ cs.size = 8
theorem RayV.below {W w w' : World} {g : Nat} {v : Value} {q : Rat × Rat} (h : RayV W w g v q) (hb : Below w.heap.size w w') : RayV W w' g v q := ⟨h.blk.below hb h.blk.lt, h.at_.imp (fun h => h.below hb) id, h.agg⟩
theorem RayV.ray {W w : World} {g : Nat} {v : Value} {q : Rat × Rat} (h : RayV W w g v q) (hb : Below W.heap.size W w) : RAt w v q := h.at_.elim (fun h => h.at_) fun h => h.below hb
theorem at_kept {W w w' : World} {v : Value} {q : Rat × Rat} {B : Nat} {Ts : List TypeId} (h : RIn w v q ∨ RAt W v q) (k : KeptV B Ts w w') (hT : 109 ∉ Ts) : RIn w' v q ∨ RAt W v q := h.imp (fun h => h.kept k hT) id

set_option maxRecDepth 100000 in
set_option maxHeartbeats 4000000 in
theorem trace_w (l : List ERaw) (A : Option Addr) (c : Nat) (q0 : Rat × Rat) (k : Int) (w : World) (hl : l.length ≤ 4096) (hb : BenchIn w w.heap.size A l) (hck : chkB l ERaw.may = 0) (hs : sumL l ≤ 2000000) (F : FineR q0) (v_r : Value) (g_r : RAt w v_r q0) (hk : k = if longZ (flatR (traceR (l.map ERaw.el) q0)) then 4 else 0) :
    Calls Tryz.prog 22 #[.slice A l.length c, v_r] w (RetTr w (traceR (l.map ERaw.el) q0) k) := by
  obtain ⟨A0, c0, A1, c1, A2, c2, A3, c3, rfl, -⟩ := g_r.form
  have hm := chkB_may hck
  have HM := Lib.hid hm
  have H1 := Lib.hid (fun (V : World) (hV : Below w.heap.size w V) => check_q l A c V (by omega) (hb.to hV))
  rw [hck] at H1
  have H2 := Lib.hid (fun (i : Nat) (hi : i < l.length) (V : World) (hV : Below w.heap.size w V) => of_q l[i] w (hb.els _ (List.getElem_mem hi)) (hm _ (List.getElem_mem hi)) V hV)
  have H3 := Lib.hid (show ∀ (i : Nat) (hi : i < l.length) (V : World) (v1 v2 : Value), MAt V v1 l[i].el.mat → RAt V v2 (rayAt (l.map ERaw.el) q0 i) → Calls Tryz.prog 52 #[v1, v2] V fun e w' => ∃ v, e = .returned v ∧ RIn w' v (rayAt (l.map ERaw.el) q0 (i + 1)) ∧ Below V.heap.size V w' from fun i hi V v1 v2 g1 g2 => by
    obtain ⟨D, hD⟩ := ERaw.bound (hb.els _ (List.getElem_mem hi)) (hm _ (List.getElem_mem hi))
    obtain ⟨⟨m1, m2⟩, m3, m4⟩ := hD.sz
    have s0 := bench_rays hb.els hm F i
    have h1 := lens_le l l[i] (List.getElem_mem hi)
    have e := rayAt_next (l.map ERaw.el) q0 i (by rw [List.length_map]; exact hi)
    rw [List.getElem_map] at e
    rw [e]
    have a1 := m1.mono (show l[i].lens + 1 ≤ 50000000 by omega)
    have a2 := m2.mono (show l[i].lens + 1 ≤ 50000000 by omega)
    have a3 := m3.mono (show l[i].lens + 1 ≤ 50000000 by omega)
    have a4 := m4.mono (show l[i].lens + 1 ≤ 50000000 by omega)
    have b1 := s0.1.mono (show 4096 + sumL l ≤ 50000000 by omega)
    have b2 := s0.2.mono (show 4096 + sumL l ≤ 50000000 by omega)
    exact rowthr_w (pair_q a1 b1 a2 b2) (pair_q a3 b1 a4 b2) V v1 v2 g1 g2)
  have HK := Lib.hid hk
  have HF := Lib.hid F
  have HBN := Lib.hid hb
  obtain ⟨i0, hi0, hz0, hz1, hz2⟩ := info_parts rayParts
  obtain ⟨i9, hi9, hy0, hy1, hy2⟩ := info_parts fracParts
  have G := Lib.hid g_r
  clear hm g_r hk F hb hck hs
  go_enter Tryz.func22, Tryz.ntmps22
  go_upto_region 1 with fail
  refine boxes1 (P := fun W => Code.wp _ _ _ _ W) fun W p0 b0 => ?_
  have PX := Lib.hid (Oct.mk p0)
  have HB := Lib.hid b0
  clear b0 p0
  go_wp2_with fail
  refine (H1.out W HB.out).mono ?_
  rintro e w1 ⟨rfl, hb⟩
  have PX := Lib.hid (PX.out.below hb)
  have HB := Lib.hid (belowTo HB.out hb)
  clear hb H1
  obtain ⟨-, x0, x1, x2, x3, x4, x5, x6, x7⟩ := PX.out.facts
  go_wp2_with fail
  refine boxes1 (P := fun V => Calls _ _ _ V _) fun V1 hq ha => ?_
  have gm := (G.out.below HB.out).below ha
  have hfa : FA V1 (.slice (some ⟨w1.heap.size, 0, none⟩) 2 2) (numsR q0) := ⟨_, 2, _, [⟨_, A0, _, c0, _, A1, _, c1⟩, ⟨_, A2, _, c2, _, A3, _, c3⟩], rfl, hq, List.prefix_refl _, ⟨gm.re, gm.im, trivial⟩, by simp⟩
  refine (hfa.checks (by simp only [List.mem_cons, List.not_mem_nil, or_false]; rintro z (rfl | rfl); exact HF.out.y; exact HF.out.u)).mono ?_
  rintro e w2 ⟨rfl, hc⟩
  have PX := Lib.hid ((PX.out.below ha).below hc)
  have HB := Lib.hid (belowTo (belowTo HB.out ha) hc)
  clear gm hfa hq ha hc x0 x1 x2 x3 x4 x5 x6 x7
  obtain ⟨hw2, hsz2⟩ : w.heap.size < w2.heap.size ∧ True := ⟨PX.out.blk.lt, trivial⟩
  have PV := Lib.hid (RayV.mk (v := .agg _) PX.out.blk (.inr G.out) ⟨_, rfl, rfl⟩)
  have GR := Lib.hid (GrowR.nil w2 w2.heap.size)
  have GF := Lib.hid (GrowF.nil w2 w2.heap.size)
  have HB2 := HB
  clear PX hsz2
  go_wp2_with fail
  go_loopw [7, 8, 25] (fun s7 s8 s25 wr => ∃ (i : Nat) (vr vo va : Value), vo = s7 ∧ va = s8 ∧ s25 = .int .i64 i ∧ i ≤ l.length ∧ Hid (GrowR wr w2.heap.size vo ((traceR (l.map ERaw.el) q0).take i)) ∧ Hid (GrowF wr w2.heap.size va (flatR ((traceR (l.map ERaw.el) q0).take i))) ∧ Hid (RayV w wr w.heap.size vr (rayAt (l.map ERaw.el) q0 i)) ∧ Hid (Below w.heap.size w wr ∧ w2.heap.size ≤ wr.heap.size)) (fun _ _ s _ => l.length - (intOf s).toNat)
  case atStart => exact ⟨0, _, _, _, rfl, rfl, rfl, Nat.zero_le _, GR, GF, by rw [rayAt_zero]; exact PV, Lib.hid ⟨HB.out, Nat.le_refl _⟩⟩
  case round =>
    obtain ⟨i, vr, vo, va, rfl, rfl, rfl, hi, GR, GF, PV, HB⟩ := hrel
    by_cases hlt : i < l.length
    · have a0 : (0 : Int) ≤ (i : Int) := by omega
      have a1 : (i : Int) < (l.length : Int) := by omega
      obtain ⟨e0, e1, e2, e3, e4, e5, e6, e7, e8⟩ := cellsEL_get l i hlt
      obtain ⟨ad, rfl, hbl, z0, z1, z2, z3, z4, z5, z6, z7, z8⟩ := (HBN.out.row.below HB.out.1).row9 hlt e0 e1 e2 e3 e4 e5 e6 e7 e8
      clear e0 e1 e2 e3 e4 e5 e6 e7 e8 hbl
      go_upto_region 11 with fail
      refine boxes1 (P := fun W => Code.wp _ _ _ _ W) fun W5 hq ha => ?_
      have hsw := HB.out.2
      have GR := Lib.hid (GR.out.below ha)
      have GF := Lib.hid (GF.out.below ha)
      have PV := Lib.hid (PV.out.below ha)
      have hlw := HB.out.1.size
      have HX := Lib.hid (Nine.mk hq)
      have hxl : w2.heap.size ≤ wr.heap.size := hsw
      have HB := Lib.hid (And.intro (belowTo HB.out.1 ha) (Nat.le_trans hsw ha.size))
      clear hq ha z0 z1 z2 z3 z4 z5 z6 z7 z8
      obtain ⟨cr, rfl, hcr⟩ := PV.out.agg
      have hpv := PV.out.blk
      have hlt9 := hpv.lt
      go_wp2_with fail
      refine wp_region_free [.val (.agg #[.int .u8 l[i].kind, .bool l[i].p.n1, .slice l[i].p.A l[i].p.xs.length l[i].p.c, .bool l[i].p.n2, .slice l[i].p.B l[i].p.ys.length l[i].p.e, .bool l[i].q.n1, .slice l[i].q.A l[i].q.xs.length l[i].q.c, .bool l[i].q.n2, .slice l[i].q.B l[i].q.ys.length l[i].q.e]) [999], .any false (fun u V => MIn V u l[i].el.mat) [], .val (.agg cr) [1004], .any false (fun u V => RIn V u (rayAt (l.map ERaw.el) q0 (i + 1))) [1], .old w.heap.size 29 cr 0 8 3 []] w.heap.size W5 [29] (fun _ _ => False) _ mixedOrders2 (by omega) (Below.refl _ _) (KeptV.refl _ _ _) rfl (by kernel_rfl) (by kernel_rfl) (by kernel_rfl) (by kernel_rfl) (by kernel_rfl) (by kernel_rfl) (by kernel_rfl) (by kernel_rfl) rfl (by simp [oldsF]) ?_ ?_ ?_ ?_
      · simp only [StableF, and_true]
        exact ⟨fun u V V' h k => MatIn.kept h k (by decide), fun u V V' h k => GaussIn.kept h k (by decide)⟩
      · simp only [OldsF, and_true]
        exact ⟨Nat.le_refl _, hlt9, hpv, by omega⟩
      · simp (maxSteps := 4000000) [StepsF, DepF, oldsF, freeAct, fill, pairs]
        repeat' (first | apply And.intro | (intro (u : Value)) | (intro (u : Nat)))
        all_goals try exact ⟨_, _, _, rfl, rfl, rfl, rfl, rayInfo⟩
        all_goals first
        | (intro V hV hK
           have hvb := HB.out.1.trans hV
           have C := H2.out i hlt V hvb
           unfold ERaw.val at C
           clear hV hK
           go_simp
           refine C.mono ?_
           rintro e w' ⟨v, rfl, hv, hb⟩
           exact ⟨hv, hb⟩)
        | (intro V hV hK ho
           have hx5 : Nine V wr.heap.size 65 _ _ _ _ _ _ _ _ _ := ⟨(ho wr.heap.size HX.out.blk.lt (by omega)).trans HX.out.blk⟩
           obtain ⟨-, x0, x1, x2, x3, x4, x5, x6, x7, x8⟩ := hx5.facts
           clear hV hK ho hx5
           go_simp
           exact Below.refl _ _)
        | (intro V hV hK ho
           clear hV hK
           exact wp_load_row _ _ (by rfl) _ (by rfl) _ _ _ _ ho Tryz.underlying29 rfl (by rw [hcr]; exact rayInfo) ⟨rfl, Below.refl _ _⟩)
        | (intro V hV hK h1
           have hr := (at_kept PV.out.at_ hK (by decide)).elim (fun h => h.at_) fun h => h.below (HB.out.1.trans hV)
           have C := H3.out i hlt V _ _ (MatIn.at_ h1) hr
           clear hV hK
           go_simp
           refine C.mono ?_
           rintro e w' ⟨v, rfl, hv, hb⟩
           exact ⟨hv, hb⟩)
        | exact fun _ _ _ h => GaussIn.cells h
      · simp [EndF, FactsF, freeAct, fill, pairs]
        intro u1 u2 V hV hK h1 h2 bq _ _ _
        have hen : EndN _ _ W5 V := ‹EndN _ _ W5 V›
        have hol : ∀ j, j < W5.heap.size → j ≠ w.heap.size → V.heap[j]? = W5.heap[j]? := fun j hj hne => hen.only j hj (by simp [oldsF]; exact hne)
        have GR := Lib.hid (GR.out.only hK (by decide) hol hw2)
        have GF := Lib.hid (GF.out.kept hK (by decide) (by decide))
        rw [setAll_all _ _ (hcr.trans (GaussIn.cells h2).1.symm)] at bq
        have HB := Lib.hid (And.intro (HB.out.1.trans hV) (Nat.le_trans HB.out.2 hV.size))
        obtain ⟨qn, hqn⟩ : ∃ q, q = rayAt (l.map ERaw.el) q0 (i + 1) := ⟨_, rfl⟩
        rw [← hqn] at h2
        have HQ := Lib.hid hqn
        obtain ⟨a, ea⟩ : ∃ z, z = qn.1.num := ⟨_, rfl⟩
        obtain ⟨b, eb⟩ : ∃ z, z = (qn.1.den : Int) := ⟨_, rfl⟩
        obtain ⟨d, ed⟩ : ∃ z, z = qn.2.num := ⟨_, rfl⟩
        obtain ⟨f, ef⟩ : ∃ z, z = (qn.2.den : Int) := ⟨_, rfl⟩
        have hr2 : GaussIn V u2 a b d f := by rw [ea, eb, ed, ef]; exact h2
        have HE := Lib.hid (show numsR qn = [(a, b), (d, f)] from by rw [ea, eb, ed, ef])
        have HI := Lib.hid (show ∀ (U : World) (v : Value), GaussIn U v a b d f → RIn U v qn from fun U v h => by rw [ea, eb, ed, ef] at h; exact h)
        obtain ⟨A0, c0, A1, c1, A2, c2, A3, c3, rfl, -⟩ := hr2.form
        simp [Value.cells] at bq
        have PO := Lib.hid (Oct.mk bq)
        have HR := Lib.hid hr2
        clear hqn ea eb ed ef h1 h2 hr2 bq hen hol hV hK HX PV hpv
        obtain ⟨lr, h1r, h2r⟩ := GR.out.form
        obtain ⟨lf, h1f, h2f⟩ := GF.out.form
        have hlr : lr.length = i := by rw [h2r.len, List.length_take, traceR_length, List.length_map]; omega
        have hlf : lf.length = 2 * i := by
          rw [h2f.at_.len]
          rw [flatR_length, List.length_take, traceR_length, List.length_map]
          omega
        have hbv := Below.refl V.heap.size V
        obtain ⟨-, x0, x1, x2, x3, x4, x5, x6, x7⟩ := PO.out.facts
        have hs2 := HB.out.2
        go_upto_region 13 with (refine wpList_append_N rfl _ _ _ (by rfl) w2.heap.size 29 i0 _ 8 128 Tryz.underlying57 hi0 hz0 hz1 hz2 rfl (by omega) _ lr.length lr.flatten (by rfl) (own_below h1r (hbv.alloc (Nat.le_refl _) _)) _ (some ⟨V.heap.size, 0, none⟩) 1 1 [.bool (decide (a < 0)), .slice A0 (natL a.natAbs).length c0, .bool (decide (b < 0)), .slice A1 (natL b.natAbs).length c1, .bool (decide (d < 0)), .slice A2 (natL d.natAbs).length c2, .bool (decide (f < 0)), .slice A3 (natL f.natAbs).length c3] (by rfl) (Reads.new1 V 29 8 _ rfl) (by simp [Value.oneCell']) (by unfold maxLen; omega) (by omega) (by simp; omega) ?_; intro vo' V1 ho hg)
        have ha := hbv.alloc (Nat.le_refl _) (.cells #[.bool (decide (a < 0)), .slice A0 (natL a.natAbs).length c0, .bool (decide (b < 0)), .slice A1 (natL b.natAbs).length c1, .bool (decide (d < 0)), .slice A2 (natL d.natAbs).length c2, .bool (decide (f < 0)), .slice A3 (natL f.natAbs).length c3] 29)
        have hov := own_below h1r ha
        have GR1 := Lib.hid (GrowR.more (c := [.bool (decide (a < 0)), .slice A0 (natL a.natAbs).length c0, .bool (decide (b < 0)), .slice A1 (natL b.natAbs).length c1, .bool (decide (d < 0)), .slice A2 (natL d.natAbs).length c2, .bool (decide (f < 0)), .slice A3 (natL f.natAbs).length c3]) (HI.out _ _ (HR.out.below ha)) rfl hov (h2r.kept (Ts := []) (KeptV.of_below (B := 0) ha) (by simp)) ho hg)
        have k1 := kept_grown hov hg
        have hne : vo.ownBlock ≠ some w.heap.size := fun e => by
          have := (h1r.lt _ e).1
          omega
        have hpo := (PO.out.blk.alloc (.cells #[.bool (decide (a < 0)), .slice A0 (natL a.natAbs).length c0, .bool (decide (b < 0)), .slice A1 (natL b.natAbs).length c1, .bool (decide (d < 0)), .slice A2 (natL d.natAbs).length c2, .bool (decide (f < 0)), .slice A3 (natL f.natAbs).length c3] 29))
        have PO1 := Lib.hid (show Oct V1 w.heap.size 29 _ _ _ _ _ _ _ _ from ⟨(hg.block _ hpo.lt (fun e => hne e.symm)).trans hpo⟩)
        have HR1 := Lib.hid ((HR.out.below ha).kept k1 (by decide))
        have GF1 := Lib.hid ((GF.out.below ha).kept k1 (by decide) (by decide))
        have HB1 := Lib.hid (And.intro (grownB hov hg (HB.out.1.alloc HB.out.1.size _) (by omega) (by simp; omega)) (show w2.heap.size ≤ V1.heap.size from Nat.le_trans hs2 (Nat.le_trans ha.size hg.size)))
        clear GR GF HR HB PO ho hg k1 hne hpo hov ha hbv h1r h2r h1f h2f x0 x1 x2 x3 x4 x5 x6 x7 hs2
        obtain ⟨lf, h1f, h2f⟩ := GF1.out.form
        have hbv := Below.refl V1.heap.size V1
        obtain ⟨-, x0, x1, x2, x3, x4, x5, x6, x7⟩ := PO1.out.facts
        have hs2 := HB1.out.2
        have hlf : lf.length = 2 * i := by
          rw [h2f.at_.len]
          rw [flatR_length, List.length_take, traceR_length, List.length_map]
          omega
        go_upto_region 14 with (refine wpList_append_N rfl _ _ _ (by rfl) w2.heap.size 27 i9 _ 4 64 Tryz.underlying77 hi9 hy0 hy1 hy2 rfl (by omega) _ lf.length (cellsF lf) (by rfl) (own_below h1f (hbv.alloc (Nat.le_refl _) _)) _ (some ⟨V1.heap.size, 0, none⟩) 2 2 [.bool (decide (a < 0)), .slice A0 (natL a.natAbs).length c0, .bool (decide (b < 0)), .slice A1 (natL b.natAbs).length c1, .bool (decide (d < 0)), .slice A2 (natL d.natAbs).length c2, .bool (decide (f < 0)), .slice A3 (natL f.natAbs).length c3] (by rfl) (Reads.blk (Blk.new V1 27 _) rfl) (by simp [Value.oneCell']) (by unfold maxLen; omega) (by omega) (by simp; omega) ?_; intro va' V2 ho hg)
        have ha := hbv.alloc (Nat.le_refl _) (.cells #[.bool (decide (a < 0)), .slice A0 (natL a.natAbs).length c0, .bool (decide (b < 0)), .slice A1 (natL b.natAbs).length c1, .bool (decide (d < 0)), .slice A2 (natL d.natAbs).length c2, .bool (decide (f < 0)), .slice A3 (natL f.natAbs).length c3] 27)
        have hov := own_below h1f ha
        obtain ⟨B0, e0, B1, e1, B2, e2, B3, e3, h0, f1, f2⟩ := (HR1.out.below ha).form
        simp only [Value.agg.injEq, Array.mk.injEq, List.cons.injEq, Value.slice.injEq, and_true, true_and] at h0
        obtain ⟨⟨rfl, rfl⟩, ⟨rfl, rfl⟩, ⟨rfl, rfl⟩, rfl, rfl⟩ := h0
        have GF2 := Lib.hid (GrowF.more2 (p := ⟨_, A0, _, c0, _, A1, _, c1⟩) (q := ⟨_, A2, _, c2, _, A3, _, c3⟩) (y := (a, b)) (z := (d, f)) f1 f2 hov (h2f.kept (Ts := []) (KeptV.of_below (B := 0) ha) (by simp)) ho hg)
        have k1 := kept_grown hov hg
        have PO2 := Lib.hid (show Oct V2 w.heap.size 29 _ _ _ _ _ _ _ _ from ⟨k1.blk (PO1.out.blk.alloc _) (by decide)⟩)
        have HR2 := Lib.hid ((HR1.out.below ha).kept k1 (by decide))
        have GR2 := Lib.hid ((GR1.out.below ha).kept k1 (by decide) (by decide))
        have HB2 := Lib.hid (And.intro (grownB hov hg (HB1.out.1.alloc HB1.out.1.size _) (by omega) (by simp; omega)) (show w2.heap.size ≤ V2.heap.size from Nat.le_trans hs2 (Nat.le_trans ha.size hg.size)))
        clear GR1 GF1 HR1 HB1 PO1 ho hg k1 hov ha hbv h1f h2f x0 x1 x2 x3 x4 x5 x6 x7 hs2 f1 f2
        have hti := traceR_take (l.map ERaw.el) q0 i (by rw [List.length_map]; exact hlt)
        rw [← HQ.out] at hti
        have GRZ := Lib.hid (show GrowR V2 w2.heap.size vo' ((traceR (l.map ERaw.el) q0).take (i + 1)) from by rw [hti]; exact GR2.out)
        have GFZ := Lib.hid (show GrowF V2 w2.heap.size va' (flatR ((traceR (l.map ERaw.el) q0).take (i + 1))) from by rw [hti, flatR_app]; show GrowF _ _ _ (_ ++ (numsR qn ++ [])); rw [List.append_nil, HE.out]; exact GF2.out)
        have PVZ := Lib.hid (show RayV w V2 w.heap.size (.agg #[.bool (decide (a < 0)), .slice A0 (natL a.natAbs).length c0, .bool (decide (b < 0)), .slice A1 (natL b.natAbs).length c1, .bool (decide (d < 0)), .slice A2 (natL d.natAbs).length c2, .bool (decide (f < 0)), .slice A3 (natL f.natAbs).length c3]) (rayAt (l.map ERaw.el) q0 (i + 1)) from by rw [← HQ.out]; exact ⟨PO2.out.blk, .inl (HI.out _ _ HR2.out), _, rfl, rfl⟩)
        clear GR2 GF2 HR2 PO2 hti
        go_wp2_with fail
        go_roundw
        case rel => exact ⟨i + 1, _, _, _, rfl, rfl, by go_num, hlt, GRZ, GFZ, PVZ, HB2⟩
        case measure => simp [intOf]; omega
    · have e9 : i = l.length := by omega
      have et : (traceR (l.map ERaw.el) q0).take i = traceR (l.map ERaw.el) q0 := List.take_of_length_le (by rw [traceR_length, List.length_map]; omega)
      have GR := Lib.hid (show GrowR wr w2.heap.size vo (traceR (l.map ERaw.el) q0) from by rw [← et]; exact GR.out)
      have GF := Lib.hid (show GrowF wr w2.heap.size va (flatR (traceR (l.map ERaw.el) q0)) from by rw [← et]; exact GF.out)
      have hfl : (flatR (traceR (l.map ERaw.el) q0)).length ≤ 1000000 := by
        rw [flatR_length, traceR_length, List.length_map]
        omega
      have HFL := Lib.hid hfl
      clear et hfl PV
      cases hz : longZ (flatR (traceR (l.map ERaw.el) q0)) with
      | false =>
        have hk0 : k = 0 := by rw [HK.out, hz]; rfl
        subst hk0
        have T := Lib.hid (told_r_false (v := vo) hz HFL.out wr GF.out)
        clear hz HK
        go_wp2_with fail
        refine T.out.mono ?_
        rintro e w9 ⟨rfl, hb⟩
        have HF9 := Lib.hid ((GR.out.below hb).base (Nat.le_of_lt hw2))
        have HB9 := Lib.hid (belowTo HB.out.1 hb)
        clear hb T
        go_wp2_with fail
        go_ret2
        exact ⟨_, rfl, fun _ => HF9.out, HB9.out⟩
      | true =>
        have hk0 : k = 4 := by rw [HK.out, hz]; rfl
        subst hk0
        have T := Lib.hid (told_r_true (v := vo) hz HFL.out wr GF.out)
        clear hz HK
        go_wp2_with fail
        refine T.out.mono ?_
        rintro e w9 ⟨rfl, hb⟩
        have HB9 := Lib.hid (belowTo HB.out.1 hb)
        clear hb T
        go_wp2_with fail
        go_ret2
        exact ⟨_, rfl, fun h => absurd h (by decide), HB9.out⟩
end Go.Proofs.YtmcnmoljliggfaaGreatDoor
