/- WholeSums: the walk. (Written by wip/whole/gensums.py.) -/
import Derived.Test.YtpcdiijmhllejaaGreatDoorAnswered
import Derived.Test.YtpcdiijmhllejaaGreatDoorUp
import Derived.Deep.RegionWith
import Derived.Deep.RegionHeld3
import Derived.Deep.DeepCutAuto
namespace Go.Proofs.YtpcdiijmhllejaaGreatDoor
open Go.RowKit

/-- A variable that holds a number of the call's own: its block, its limbs from lo on and below hi. -/
structure Var (w : World) (g : Nat) (b : Bool) (A : Option Addr) (n c lo hi : Nat) (r : Int) : Prop where
  pair : Pair w g 24 (.bool b) (.slice A n c)
  own : IntOwn w lo (.agg #[.bool b, .slice A n c]) r
  top : ∀ x, (Value.slice A n c).ownBlock = some x → x < hi
theorem Var.below {w w' : World} {g n c lo hi : Nat} {b : Bool} {A : Option Addr} {r : Int} (h : Var w g b A n c lo hi r) (hb : Below w.heap.size w w') : Var w' g b A n c lo hi r := ⟨h.pair.below hb, h.own.below hb, h.top⟩
theorem Var.new {w : World} {n c lo : Nat} {b : Bool} {A : Option Addr} {r : Int} (h : IntOwn w lo (.agg #[.bool b, .slice A n c]) r) : Var (w.alloc (.cells #[.bool b, .slice A n c] 24)) w.heap.size b A n c lo w.heap.size r := by
  refine ⟨Pair.new w _ _ _, h.alloc _, fun x hx => ?_⟩
  obtain ⟨A', c', h1, h2, h3, h4⟩ := h.form
  simp only [Value.agg.injEq] at h1
  have e : (Value.slice A n c) = .slice A' (natL r.natAbs).length c' := by
    have := congrArg (fun a : Array Value => a[1]?) h1
    simpa using this
  rw [e] at hx
  exact (h4.lt x hx).2
theorem Var.row {w : World} {g n c lo hi : Nat} {b : Bool} {A : Option Addr} {r : Int} (h : Var w g b A n c lo hi r) (hn : n ≤ 1073741824) : ∃ k X, k ≤ 1073741824 ∧ w.ownsRow lo tLimb 1 (.slice A n c) k X := by
  obtain ⟨A', c', h1, h2, h3, h4⟩ := h.own.form
  simp only [Value.agg.injEq] at h1
  have e : (Value.slice A n c) = .slice A' (natL r.natAbs).length c' := by
    have := congrArg (fun a : Array Value => a[1]?) h1
    simpa using this
  rw [e]
  injection e with e1 e2 e3
  exact ⟨_, _, by omega, h4⟩
theorem TwinAt.row {w : World} {g lo : Nat} {xs : List Nat} (h : TwinAt w g xs) (hlo : lo ≤ g) (hl : xs.length ≤ 1048576) : w.ownsRow lo tLimb 1 (.slice (some ⟨g, 0, none⟩) xs.length (xs.length + 1)) xs.length (cellsU xs) := by
  refine ⟨by rw [cellsU_length, Nat.mul_one], .inr ⟨g, xs.length + 1, _, rfl, hlo, h.blk, Nat.le_succ _, by unfold maxLen; omega, by simp [cellsU], ?_⟩⟩
  simp [cellsU]

set_option maxRecDepth 100000 in
set_option maxHeartbeats 4000000 in
theorem sums_true (n1 n2 : Bool) (A B : Option Addr) (c d : Nat) (xs ys : List Nat) (w : World) (h : Raw w A c xs) (g : Raw w B d ys) (hx : xs.length ≤ 1152921504606846975) (hy : ys.length ≤ 1152921504606846975) :
    Calls Tryz.prog 3 #[.agg #[.bool n1, .slice A xs.length c], .agg #[.bool n2, .slice B ys.length d]] w fun e w' => e = .returned (.bool true) ∧ Below w.heap.size w w' := by
  have px := (Pair.new w 24 (.bool n1) (.slice A xs.length c)).alloc (.cells #[.bool n2, .slice B ys.length d] 24)
  have py := Pair.new (w.alloc (.cells #[.bool n1, .slice A xs.length c] 24)) 24 (.bool n2) (.slice B ys.length d)
  have rx := (h.alloc (.cells #[.bool n1, .slice A xs.length c] 24)).alloc (.cells #[.bool n2, .slice B ys.length d] 24)
  have ry := (g.alloc (.cells #[.bool n1, .slice A xs.length c] 24)).alloc (.cells #[.bool n2, .slice B ys.length d] 24)
  have b0 := ((Below.refl w.heap.size w).alloc (Nat.le_refl _) (.cells #[.bool n1, .slice A xs.length c] 24)).alloc (by simp) (.cells #[.bool n2, .slice B ys.length d] 24)
  have D1 := fun V => intSize_any n1 A c xs.length hx V
  have D2 := fun V => intSize_any n2 B d ys.length hy V
  have D3 := fun V => beyond_new xs.length ys.length hx hy 3 V
  have H1 := Lib.hid D1
  have H2 := Lib.hid D2
  have H3 := Lib.hid D3
  have RX := Lib.hid rx
  have RY := Lib.hid ry
  clear D1 D2 D3 h g rx ry
  go_enter Tryz.func3, Tryz.ntmps3
  go_wp2_with fail
  rw [show (w.alloc (.cells #[.bool n1, .slice A xs.length c] 24)).heap.size = w.heap.size + 1 by simp] at py
  obtain ⟨W, E⟩ : ∃ W, W = (w.alloc (.cells #[.bool n1, .slice A xs.length c] 24)).alloc (.cells #[.bool n2, .slice B ys.length d] 24) := ⟨_, rfl⟩
  rw [← E] at px py b0 RX RY ⊢
  clear E
  obtain ⟨l1, x0, x1, -, -⟩ := px.facts
  obtain ⟨l2, y0, y1, -, -⟩ := py.facts
  have PX := Lib.hid px
  have PY := Lib.hid py
  clear px py
  by_cases hb : 1048576 < 2 + xs.length + ys.length
  · have HB := Lib.hid (decide_eq_true hb)
    clear hb
    go_region_held3 (fun w' => Below W.heap.size W w' ∧ ∀ b o, b < W.heap.size → w'.cell? ⟨b, o, none⟩ = W.cell? ⟨b, o, none⟩)
      (first
        | exact ⟨(Below.refl _ _).drew, fun _ _ _ => rfl⟩
        | (obtain ⟨q, _⟩ := ‹Below W.heap.size W _ ∧ _›; have q' := belowTo q hbx; exact ⟨q', fun b o h => q'.cell (p := ⟨b, o, none⟩) h⟩)
        | (obtain ⟨q, _⟩ := ‹Below W.heap.size W _ ∧ _›; refine have q' := q.alloc q.size _; ⟨q', fun b o h => q'.cell (p := ⟨b, o, none⟩) h⟩))
      (first
        | (go_at_call 7; with_reducible refine (H1.out _).mono ?_; rintro e wx ⟨rfl, hbx⟩)
        | (go_at_call 7; with_reducible refine (H2.out _).mono ?_; rintro e wx ⟨rfl, hbx⟩)
        | (go_at_call 6; with_reducible refine (H3.out _).mono ?_; rintro e wx ⟨rfl, hbx⟩; rw [HB.out]))
    obtain ⟨q, _⟩ := ‹Below W.heap.size W _ ∧ _›
    go_wp2_with fail
    go_ret
    exact ⟨rfl, b0.trans (q.mono b0.size)⟩
  · have HB := Lib.hid (decide_eq_false hb)
    clear l1 x0 x1 l2 y0 y1
    obtain ⟨l1, x0, x1, -, -⟩ := PX.out.facts
    obtain ⟨l2, y0, y1, -, -⟩ := PY.out.facts
    go_region_held3 (fun w' => Below W.heap.size W w' ∧ ∀ b o, b < W.heap.size → w'.cell? ⟨b, o, none⟩ = W.cell? ⟨b, o, none⟩)
      (first
        | exact ⟨(Below.refl _ _).drew, fun _ _ _ => rfl⟩
        | (obtain ⟨q, _⟩ := ‹Below W.heap.size W _ ∧ _›; have q' := belowTo q hbx; exact ⟨q', fun b o h => q'.cell (p := ⟨b, o, none⟩) h⟩)
        | (obtain ⟨q, _⟩ := ‹Below W.heap.size W _ ∧ _›; refine have q' := q.alloc q.size _; ⟨q', fun b o h => q'.cell (p := ⟨b, o, none⟩) h⟩))
      (first
        | (go_at_call 7; with_reducible refine (H1.out _).mono ?_; rintro e wx ⟨rfl, hbx⟩)
        | (go_at_call 7; with_reducible refine (H2.out _).mono ?_; rintro e wx ⟨rfl, hbx⟩)
        | (go_at_call 6; with_reducible refine (H3.out _).mono ?_; rintro e wx ⟨rfl, hbx⟩; rw [HB.out]))
    obtain ⟨q, qc⟩ := ‹Below W.heap.size W _ ∧ _›
    clear H1 H2 H3 HB x0 x1 l1 y0 y1 l2
    have B0 := b0.trans (q.mono b0.size)
    have RX1 := Lib.hid (RX.out.below q)
    have RY1 := Lib.hid (RY.out.below q)
    have PX1 := Lib.hid (PX.out.below q)
    have PY1 := Lib.hid (PY.out.below q)
    clear RX RY PX PY qc b0 q
    have D4 := fun (V : World) (hV : Below wx.heap.size wx V) => twin_any n1 A c xs V (RX1.out.below hV) (by omega)
    have D5 := fun (V : World) (hV : Below wx.heap.size wx V) => twin_any n2 B d ys V (RY1.out.below hV) (by omega)
    have H4 := Lib.hid D4
    have H5 := Lib.hid D5
    have hlim : xs.length ≤ 1048576 ∧ ys.length ≤ 1048576 := by omega
    have HL := Lib.hid hlim
    clear hb hlim D4 D5
    go_upto_region 3 with fail
    go_cut [5, 6] (fun s5 s6 wz => ∃ g1 g2 b1 b2 : Nat, s5 = .pointer (some ⟨b1, 0, none⟩) ∧ s6 = .pointer (some ⟨b2, 0, none⟩) ∧ Below wx.heap.size wx wz ∧ (wx.heap.size ≤ g1 ∧ g1 < g2) ∧ TwinAt wz g1 xs ∧ TwinAt wz g2 ys ∧
      Pair wz b1 24 (.bool n1) (.slice (some ⟨g1, 0, none⟩) xs.length (xs.length + 1)) ∧ Pair wz b2 24 (.bool n2) (.slice (some ⟨g2, 0, none⟩) ys.length (ys.length + 1)))
    case first =>
      have qq : Below wx.heap.size wx wx := Below.refl _ _
      obtain ⟨l1, x0, x1, -, -⟩ := PX1.out.facts
      obtain ⟨l2, y0, y1, -, -⟩ := PY1.out.facts
      go_region_held3 (fun w' => Below wx.heap.size wx w' ∧ ∀ b o, b < wx.heap.size → w'.cell? ⟨b, o, none⟩ = wx.cell? ⟨b, o, none⟩)
        (((with_reducible refine keep_of ?_); (repeat' (with_reducible first | exact qb | exact qa | exact qq | refine Below.drew ?_ | refine below_one ?_ _ | refine below2 ?_ ?_ _ _ | exact Nat.le_refl _ | omega | (have := qb.size; omega) | (have := qa.size; omega) | (have := qb.size; simp; omega) | (have := qa.size; simp; omega)))))
        (first
        | (go_at_call 8
           with_reducible refine (H4.out _ ?_).mono ?_
           with_reducible first | exact qq.drew | exact (below_one qq _).drew | exact (below_two qq _ _).drew
           rintro e wa ⟨g1, rfl, t1, m1, hba⟩
           have qa : Below wx.heap.size wx wa := by with_reducible first | exact belowTo qq.drew hba | exact belowTo (below_one qq _).drew hba | exact belowTo (below_two qq _ _).drew hba
           try (have na := (by with_reducible exact ((Pair.new _ 24 (.bool false) (.slice none 0 0)).drew).below hba); (try simp at na); obtain ⟨na1, na2, na3, na4, na5⟩ := na.facts)
           try (have nb := (by with_reducible exact (((Pair.new _ 24 (.bool false) (.slice none 0 0)).alloc _).drew).below hba); (try simp at nb); obtain ⟨nb1, nb2, nb3, nb4, nb5⟩ := nb.facts)
           obtain ⟨k1, k2, k3, -, -⟩ := (PY1.out.below qa).facts
           have k0 : w.heap.size < wa.heap.size := by omega
           clear l1 x0 x1 l2 y0 y1)
        | (go_at_call 8
           with_reducible refine (H5.out _ ?_).mono ?_
           with_reducible first | exact qa | exact below_one qa _ | exact below_two qa _ _
           rintro e wb ⟨g2, rfl, t2, m2, hbb⟩
           have qb : Below wx.heap.size wx wb := by with_reducible first | exact belowTo qa hbb | exact belowTo (below_one qa _) hbb | exact belowTo (below_two qa _ _) hbb
           have t1b : TwinAt wb g1 xs := by with_reducible first | exact t1.below hbb | exact (t1.alloc _).below hbb | exact ((t1.alloc _).alloc _).below hbb
           try (have nc := (by with_reducible exact (Pair.new _ 24 (.bool false) (.slice none 0 0)).below hbb); (try simp at nc); obtain ⟨nc1, nc2, nc3, nc4, nc5⟩ := nc.facts)
           try (have nd := (by with_reducible exact ((Pair.new _ 24 (.bool false) (.slice none 0 0)).alloc _).below hbb); (try simp at nd); obtain ⟨nd1, nd2, nd3, nd4, nd5⟩ := nd.facts)
           try (have ne := (show Pair wb _ _ _ _ by with_reducible first | exact na.below hbb | exact (na.alloc _).below hbb); (try simp at ne); obtain ⟨ne1, ne2, ne3, ne4, ne5⟩ := ne.facts)
           try (have nf := (by with_reducible exact nb.below hbb); (try simp at nf); obtain ⟨nf1, nf2, nf3, nf4, nf5⟩ := nf.facts)))
      all_goals (go_wp2_with fail; go_meet)
      all_goals
        have e1 := t1.blk.lt
        have e2 := t2.blk.lt
        (try simp at m1)
        (try simp at m2)
        refine ⟨g1, g2, _, _, rfl, rfl, ?_, by have := t1.blk.lt; have := qa.size; omega, ?_, ?_, ?_, ?_⟩
        · repeat' (with_reducible first | exact qb | refine below_one ?_ _ | refine below2 ?_ ?_ _ _ | exact Nat.le_refl _ | omega | (have := qb.size; omega) | (have := qa.size; omega))
        · repeat' (with_reducible first | exact t1b | refine TwinAt.alloc ?_ _ | refine TwinAt.far2 ?_ ?_ _ _ | omega)
        · repeat' (with_reducible first | exact t2 | refine TwinAt.alloc ?_ _ | refine TwinAt.far2 ?_ ?_ _ _ | omega)
        · repeat' (with_reducible first | exact Pair.new' (by simp) _ _ _ | exact Pair.store (by assumption) _ _ | exact Pair.store (Pair.far (by assumption) (by omega) _ _) _ _ | refine Pair.alloc ?_ _ | refine Pair.far ?_ ?_ _ _ | omega)
        · repeat' (with_reducible first | exact Pair.new' (by simp) _ _ _ | exact Pair.store (by assumption) _ _ | exact Pair.store (Pair.far (by assumption) (by omega) _ _) _ _ | refine Pair.alloc ?_ _ | refine Pair.far ?_ ?_ _ _ | omega)
    case rest =>
      obtain ⟨g1, g2, b1, b2, rfl, rfl, qz, hg12, t1, t2, p1, p2⟩ := hcut
      have B1 := Lib.hid (B0.trans (qz.mono B0.size))
      have rx := RX1.out.below qz
      have ry := RY1.out.below qz
      have px := PX1.out.below qz
      have py := PY1.out.below qz
      have hbase := B0.size
      have hqz := qz.size
      have ra := t1.raw rx.limbs (by omega)
      have rb := t2.raw ry.limbs (by omega)
      have PX := Lib.hid px
      have PY := Lib.hid py
      have P1 := Lib.hid p1
      have P2 := Lib.hid p2
      have T1 := Lib.hid t1
      have T2 := Lib.hid t2
      have HLX := Lib.hid (fun (V : World) (hV : Below wc.heap.size wc V) => left_any n1 A c g1 xs V (rx.below hV) (t1.below hV) HL.out.1)
      have HLY := Lib.hid (fun (V : World) (hV : Below wc.heap.size wc V) => left_any n2 B d g2 ys V (ry.below hV) (t2.below hV) HL.out.2)
      have C0 := fun (V : World) (hV : Below wc.heap.size wc V) => whole_Add n1 n2 (some ⟨g1, 0, none⟩) (some ⟨g2, 0, none⟩) (xs.length + 1) (ys.length + 1) xs ys V (ra.below hV) (rb.below hV)
      have C1 := fun (V : World) (hV : Below wc.heap.size wc V) => whole_Sub n1 n2 (some ⟨g1, 0, none⟩) (some ⟨g2, 0, none⟩) (xs.length + 1) (ys.length + 1) xs ys V (ra.below hV) (rb.below hV)
      have C2 := fun (V : World) (hV : Below wc.heap.size wc V) => whole_Mul n1 n2 (some ⟨g1, 0, none⟩) (some ⟨g2, 0, none⟩) (xs.length + 1) (ys.length + 1) xs ys V (ra.below hV) (rb.below hV)
      have C3 := fun (V : World) (hV : Below wc.heap.size wc V) => ref_Add n1 n2 A B c d xs ys V (rx.below hV) (ry.below hV)
      have C4 := fun (V : World) (hV : Below wc.heap.size wc V) => ref_Sub n1 n2 A B c d xs ys V (rx.below hV) (ry.below hV)
      have C5 := fun (V : World) (hV : Below wc.heap.size wc V) => ref_Mul n1 n2 A B c d xs ys V (rx.below hV) (ry.below hV)
      clear H4 H5
      generalize hr0 : (if okI n1 xs && okI n2 ys then toldV (ival n1 xs + ival n2 ys) else 0) = r0 at C0 C3
      generalize (if okI n1 xs && okI n2 ys then toldE (ival n1 xs + ival n2 ys) else 1) = k0 at C0 C3
      have HS0 := Lib.hid (by rw [← hr0]; split
                              · exact told_short _
                              · decide : (natL r0.natAbs).length ≤ 2048)
      generalize hr1 : (if okI n1 xs && okI n2 ys then toldV (ival n1 xs - ival n2 ys) else 0) = r1 at C1 C4
      generalize (if okI n1 xs && okI n2 ys then toldE (ival n1 xs - ival n2 ys) else 1) = k1 at C1 C4
      have HS1 := Lib.hid (by rw [← hr1]; split
                              · exact told_short _
                              · decide : (natL r1.natAbs).length ≤ 2048)
      generalize hr2 : (if okI n1 xs && okI n2 ys then toldV (ival n1 xs * ival n2 ys) else 0) = r2 at C2 C5
      generalize (if okI n1 xs && okI n2 ys then toldE (ival n1 xs * ival n2 ys) else 1) = k2 at C2 C5
      have HS2 := Lib.hid (by rw [← hr2]; split
                              · exact told_short _
                              · decide : (natL r2.natAbs).length ≤ 2048)
      have H0 := Lib.hid C0
      have H1 := Lib.hid C1
      have H2 := Lib.hid C2
      have H3 := Lib.hid C3
      have H4 := Lib.hid C4
      have H5 := Lib.hid C5
      clear C0 C1 C2 C3 C4 C5 hr0 hr1 hr2 rx ry px py p1 p2 t1 t2 ra rb RX1 RY1 PX1 PY1 qz
      have hV0 := Lib.hid (Below.refl wc.heap.size wc)
      obtain ⟨u1, u2, u3, -, -⟩ := (P1.out.below hV0.out).facts
      obtain ⟨v1, v2, v3, -, -⟩ := (P2.out.below hV0.out).facts
      go_wp2_with fail
      refine (H0.out _ hV0.out).mono ?_
      rintro e x0 ⟨vv, rfl, hI, hb⟩
      obtain ⟨A0, c0, rfl, -⟩ := hI.value
      have hnew := Var.new hI
      have hV1 := Lib.hid ((belowTo hV0.out hb).alloc (Nat.le_trans hV0.out.size hb.size) (.cells #[.bool (decide (r0 < 0)), .slice A0 (natL r0.natAbs).length c0] 24))
      have hst0 := Lib.hid (hb.alloc hb.size (.cells #[.bool (decide (r0 < 0)), .slice A0 (natL r0.natAbs).length c0] 24))
      have hsz0 := hV0.out.size
      have hup0 := hb.size
      clear u1 u2 u3 v1 v2 v3 hI hb H0
      go_upto_region 5 with fail
      obtain ⟨y1, E⟩ : ∃ W, W = x0.alloc (.cells #[.bool (decide (r0 < 0)), .slice A0 (natL r0.natAbs).length c0] 24) := ⟨_, rfl⟩
      have hyz1 : y1.heap.size = x0.heap.size + 1 := by rw [E]; simp
      rw [← E] at hnew hV1 hst0 ⊢
      have N0 := Lib.hid hnew
      obtain ⟨q0, hq0⟩ : ∃ q, q = x0.heap.size := ⟨_, rfl⟩
      rw [← hq0] at N0 hyz1 hup0 ⊢
      clear E hnew hq0
      obtain ⟨u1, u2, u3, -, -⟩ := (P1.out.below hV1.out).facts
      obtain ⟨v1, v2, v3, -, -⟩ := (P2.out.below hV1.out).facts
      go_wp2_with fail
      refine (H1.out _ hV1.out).mono ?_
      rintro e x1 ⟨vv, rfl, hI, hb⟩
      obtain ⟨A1, c1, rfl, -⟩ := hI.value
      have hnew := Var.new hI
      have hV2 := Lib.hid ((belowTo hV1.out hb).alloc (Nat.le_trans hV1.out.size hb.size) (.cells #[.bool (decide (r1 < 0)), .slice A1 (natL r1.natAbs).length c1] 24))
      have hst1 := Lib.hid (hb.alloc hb.size (.cells #[.bool (decide (r1 < 0)), .slice A1 (natL r1.natAbs).length c1] 24))
      have hsz1 := hV1.out.size
      have hup1 := hb.size
      clear u1 u2 u3 v1 v2 v3 hI hb H1
      go_upto_region 6 with fail
      obtain ⟨y2, E⟩ : ∃ W, W = x1.alloc (.cells #[.bool (decide (r1 < 0)), .slice A1 (natL r1.natAbs).length c1] 24) := ⟨_, rfl⟩
      have hyz2 : y2.heap.size = x1.heap.size + 1 := by rw [E]; simp
      rw [← E] at hnew hV2 hst1 ⊢
      have N1 := Lib.hid hnew
      obtain ⟨q1, hq1⟩ : ∃ q, q = x1.heap.size := ⟨_, rfl⟩
      rw [← hq1] at N1 hyz2 hup1 ⊢
      clear E hnew hq1
      have N0 := Lib.hid (N0.out.below hst1.out)
      obtain ⟨u1, u2, u3, -, -⟩ := (P1.out.below hV2.out).facts
      obtain ⟨v1, v2, v3, -, -⟩ := (P2.out.below hV2.out).facts
      go_wp2_with fail
      refine (H2.out _ hV2.out).mono ?_
      rintro e x2 ⟨vv, rfl, hI, hb⟩
      obtain ⟨A2, c2, rfl, -⟩ := hI.value
      have hnew := Var.new hI
      have hV3 := Lib.hid ((belowTo hV2.out hb).alloc (Nat.le_trans hV2.out.size hb.size) (.cells #[.bool (decide (r2 < 0)), .slice A2 (natL r2.natAbs).length c2] 24))
      have hst2 := Lib.hid (hb.alloc hb.size (.cells #[.bool (decide (r2 < 0)), .slice A2 (natL r2.natAbs).length c2] 24))
      have hsz2 := hV2.out.size
      have hup2 := hb.size
      clear u1 u2 u3 v1 v2 v3 hI hb H2
      go_upto_region 7 with fail
      obtain ⟨y3, E⟩ : ∃ W, W = x2.alloc (.cells #[.bool (decide (r2 < 0)), .slice A2 (natL r2.natAbs).length c2] 24) := ⟨_, rfl⟩
      have hyz3 : y3.heap.size = x2.heap.size + 1 := by rw [E]; simp
      rw [← E] at hnew hV3 hst2 ⊢
      have N2 := Lib.hid hnew
      obtain ⟨q2, hq2⟩ : ∃ q, q = x2.heap.size := ⟨_, rfl⟩
      rw [← hq2] at N2 hyz3 hup2 ⊢
      clear E hnew hq2
      have N0 := Lib.hid (N0.out.below hst2.out)
      have N1 := Lib.hid (N1.out.below hst2.out)
      obtain ⟨u1, u2, u3, -, -⟩ := (PX.out.below hV3.out).facts
      obtain ⟨v1, v2, v3, -, -⟩ := (PY.out.below hV3.out).facts
      go_wp2_with fail
      refine (H3.out _ hV3.out).mono ?_
      rintro e x3 ⟨vv, rfl, hI, hb⟩
      obtain ⟨A3, c3, rfl, -⟩ := hI.value
      have hnew := Var.new hI
      have hV4 := Lib.hid ((belowTo hV3.out hb).alloc (Nat.le_trans hV3.out.size hb.size) (.cells #[.bool (decide (r0 < 0)), .slice A3 (natL r0.natAbs).length c3] 24))
      have hst3 := Lib.hid (hb.alloc hb.size (.cells #[.bool (decide (r0 < 0)), .slice A3 (natL r0.natAbs).length c3] 24))
      have hsz3 := hV3.out.size
      have hup3 := hb.size
      clear u1 u2 u3 v1 v2 v3 hI hb H3
      go_upto_region 8 with fail
      obtain ⟨y4, E⟩ : ∃ W, W = x3.alloc (.cells #[.bool (decide (r0 < 0)), .slice A3 (natL r0.natAbs).length c3] 24) := ⟨_, rfl⟩
      have hyz4 : y4.heap.size = x3.heap.size + 1 := by rw [E]; simp
      rw [← E] at hnew hV4 hst3 ⊢
      have N3 := Lib.hid hnew
      obtain ⟨q3, hq3⟩ : ∃ q, q = x3.heap.size := ⟨_, rfl⟩
      rw [← hq3] at N3 hyz4 hup3 ⊢
      clear E hnew hq3
      have N0 := Lib.hid (N0.out.below hst3.out)
      have N1 := Lib.hid (N1.out.below hst3.out)
      have N2 := Lib.hid (N2.out.below hst3.out)
      obtain ⟨u1, u2, u3, -, -⟩ := (PX.out.below hV4.out).facts
      obtain ⟨v1, v2, v3, -, -⟩ := (PY.out.below hV4.out).facts
      go_wp2_with fail
      refine (H4.out _ hV4.out).mono ?_
      rintro e x4 ⟨vv, rfl, hI, hb⟩
      obtain ⟨A4, c4, rfl, -⟩ := hI.value
      have hnew := Var.new hI
      have hV5 := Lib.hid ((belowTo hV4.out hb).alloc (Nat.le_trans hV4.out.size hb.size) (.cells #[.bool (decide (r1 < 0)), .slice A4 (natL r1.natAbs).length c4] 24))
      have hst4 := Lib.hid (hb.alloc hb.size (.cells #[.bool (decide (r1 < 0)), .slice A4 (natL r1.natAbs).length c4] 24))
      have hsz4 := hV4.out.size
      have hup4 := hb.size
      clear u1 u2 u3 v1 v2 v3 hI hb H4
      go_upto_region 9 with fail
      obtain ⟨y5, E⟩ : ∃ W, W = x4.alloc (.cells #[.bool (decide (r1 < 0)), .slice A4 (natL r1.natAbs).length c4] 24) := ⟨_, rfl⟩
      have hyz5 : y5.heap.size = x4.heap.size + 1 := by rw [E]; simp
      rw [← E] at hnew hV5 hst4 ⊢
      have N4 := Lib.hid hnew
      obtain ⟨q4, hq4⟩ : ∃ q, q = x4.heap.size := ⟨_, rfl⟩
      rw [← hq4] at N4 hyz5 hup4 ⊢
      clear E hnew hq4
      have N0 := Lib.hid (N0.out.below hst4.out)
      have N1 := Lib.hid (N1.out.below hst4.out)
      have N2 := Lib.hid (N2.out.below hst4.out)
      have N3 := Lib.hid (N3.out.below hst4.out)
      obtain ⟨u1, u2, u3, -, -⟩ := (PX.out.below hV5.out).facts
      obtain ⟨v1, v2, v3, -, -⟩ := (PY.out.below hV5.out).facts
      go_wp2_with fail
      refine (H5.out _ hV5.out).mono ?_
      rintro e x5 ⟨vv, rfl, hI, hb⟩
      obtain ⟨A5, c5, rfl, -⟩ := hI.value
      have hnew := Var.new hI
      have hV6 := Lib.hid ((belowTo hV5.out hb).alloc (Nat.le_trans hV5.out.size hb.size) (.cells #[.bool (decide (r2 < 0)), .slice A5 (natL r2.natAbs).length c5] 24))
      have hst5 := Lib.hid (hb.alloc hb.size (.cells #[.bool (decide (r2 < 0)), .slice A5 (natL r2.natAbs).length c5] 24))
      have hsz5 := hV5.out.size
      have hup5 := hb.size
      clear u1 u2 u3 v1 v2 v3 hI hb H5
      go_upto_region 10 with fail
      obtain ⟨y6, E⟩ : ∃ W, W = x5.alloc (.cells #[.bool (decide (r2 < 0)), .slice A5 (natL r2.natAbs).length c5] 24) := ⟨_, rfl⟩
      have hyz6 : y6.heap.size = x5.heap.size + 1 := by rw [E]; simp
      rw [← E] at hnew hV6 hst5 ⊢
      have N5 := Lib.hid hnew
      obtain ⟨q5, hq5⟩ : ∃ q, q = x5.heap.size := ⟨_, rfl⟩
      rw [← hq5] at N5 hyz6 hup5 ⊢
      clear E hnew hq5
      have N0 := Lib.hid (N0.out.below hst5.out)
      have N1 := Lib.hid (N1.out.below hst5.out)
      have N2 := Lib.hid (N2.out.below hst5.out)
      have N3 := Lib.hid (N3.out.below hst5.out)
      have N4 := Lib.hid (N4.out.below hst5.out)
      have HA0 := Lib.hid (fun (V : World) (hV : Below y6.heap.size y6 V) => answered_true _ _ r0 k0 V (N0.out.own.at_.below hV) (N3.out.own.at_.below hV))
      have HA1 := Lib.hid (fun (V : World) (hV : Below y6.heap.size y6 V) => answered_true _ _ r1 k1 V (N1.out.own.at_.below hV) (N4.out.own.at_.below hV))
      have HA2 := Lib.hid (fun (V : World) (hV : Below y6.heap.size y6 V) => answered_true _ _ r2 k2 V (N2.out.own.at_.below hV) (N5.out.own.at_.below hV))
      have hZ0 := Lib.hid (Below.refl y6.heap.size y6)
      obtain ⟨u1, u2, u3, -, -⟩ := (N0.out.pair.below hZ0.out).facts
      obtain ⟨v1, v2, v3, -, -⟩ := (N3.out.pair.below hZ0.out).facts
      go_wp2_with fail
      refine (HA0.out _ hZ0.out).mono ?_
      rintro e z1 ⟨rfl, hb⟩
      have hZ1 := Lib.hid (belowTo hZ0.out hb)
      clear u1 u2 u3 v1 v2 v3 hb
      obtain ⟨u1, u2, u3, -, -⟩ := (N1.out.pair.below hZ1.out).facts
      obtain ⟨v1, v2, v3, -, -⟩ := (N4.out.pair.below hZ1.out).facts
      go_wp2_with fail
      refine (HA1.out _ hZ1.out).mono ?_
      rintro e z2 ⟨rfl, hb⟩
      have hZ2 := Lib.hid (belowTo hZ1.out hb)
      clear u1 u2 u3 v1 v2 v3 hb
      obtain ⟨u1, u2, u3, -, -⟩ := (N2.out.pair.below hZ2.out).facts
      obtain ⟨v1, v2, v3, -, -⟩ := (N5.out.pair.below hZ2.out).facts
      go_wp2_with fail
      refine (HA2.out _ hZ2.out).mono ?_
      rintro e z3 ⟨rfl, hb⟩
      have hZ3 := Lib.hid (belowTo hZ2.out hb)
      clear u1 u2 u3 v1 v2 v3 hb
      obtain ⟨u1, u2, u3, -, -⟩ := ((P1.out.below hV6.out).below hZ3.out).facts
      obtain ⟨v1, v2, v3, -, -⟩ := ((PX.out.below hV6.out).below hZ3.out).facts
      go_wp2_with fail
      refine (HLX.out _ (belowTo hV6.out hZ3.out)).mono ?_
      rintro e z4 ⟨rfl, hb⟩
      have hZ4 := Lib.hid (belowTo hZ3.out hb)
      clear u1 u2 u3 v1 v2 v3 hb
      obtain ⟨u1, u2, u3, -, -⟩ := ((P2.out.below hV6.out).below hZ4.out).facts
      obtain ⟨v1, v2, v3, -, -⟩ := ((PY.out.below hV6.out).below hZ4.out).facts
      go_wp2_with fail
      refine (HLY.out _ (belowTo hV6.out hZ4.out)).mono ?_
      rintro e z5 ⟨rfl, hb⟩
      have hZ5 := Lib.hid (belowTo hZ4.out hb)
      clear u1 u2 u3 v1 v2 v3 hb
      clear HA0 HA1 HA2 HLX HLY PX PY
      -- the rows, one behind the other
      have hZw := Lib.hid (belowTo hV6.out hZ5.out)
      have R : RowsUp z5 w.heap.size [.slice (some ⟨g1, 0, none⟩) xs.length (xs.length + 1), .slice (some ⟨g2, 0, none⟩) ys.length (ys.length + 1), .slice A0 (natL r0.natAbs).length c0, .slice A1 (natL r1.natAbs).length c1, .slice A2 (natL r2.natAbs).length c2] z5.heap.size := by
        have t1 := (T1.out.below hZw.out).row (lo := w.heap.size) (by omega) HL.out.1
        have t2 := (T2.out.below hZw.out).row (lo := g2) (Nat.le_refl _) HL.out.2
        have t2lt := T2.out.blk.lt
        obtain ⟨n0, X0, a0, s0⟩ := (N0.out.below hZ5.out).row (by have := HS0.out; omega)
        obtain ⟨n1, X1, a1, s1⟩ := (N1.out.below hZ5.out).row (by have := HS1.out; omega)
        obtain ⟨n2, X2, a2, s2⟩ := (N2.out.below hZ5.out).row (by have := HS2.out; omega)
        have z0 : RowsUp z5 w.heap.size [] w.heap.size := Nat.le_refl _
        have z1 := RowsUp.snoc (hi' := g2) (by have := HL.out; omega) t1 (fun g hg => by injection hg with hg; have : g1 = g := hg; omega) (by omega) z0
        have z2 := RowsUp.snoc (hi' := wc.heap.size) (by have := HL.out; omega) t2 (fun g hg => by injection hg with hg; have : g2 = g := hg; omega) (by omega) z1
        have z3 := (RowsUp.snoc (hi' := q0) a0 s0 N0.out.top (by omega) z2).up (hi' := y1.heap.size) (by omega)
        have z4 := (RowsUp.snoc (hi' := q1) a1 s1 N1.out.top (by omega) z3).up (hi' := y2.heap.size) (by omega)
        have z5' := (RowsUp.snoc (hi' := q2) a2 s2 N2.out.top (by omega) z4).up (hi' := z5.heap.size) (by have := hst2.out.size; have := hst3.out.size; have := hst4.out.size; have := hst5.out.size; have := hZ5.out.size; omega)
        exact z5'
      have HR := Lib.hid R
      have hlow := Lib.hid (belowTo B1.out hZw.out)
      clear R T1 T2
      obtain ⟨u1, u2, u3, -, -⟩ := (P1.out.below hZw.out).facts
      go_upto_region 13 with fail
      obtain ⟨v0, E⟩ : ∃ W, W = z5.alloc (.cells #[.int .i64 0, .slice none 0 0, .slice none 0 0, .slice none 0 0, .slice none 0 0, .slice none 0 0, .slice none 0 0, .slice none 0 0, .slice none 0 0, .slice none 0 0, .slice none 0 0, .slice none 0 0, .slice none 0 0, .slice none 0 0, .slice none 0 0, .slice none 0 0, .slice none 0 0] 50) := ⟨_, rfl⟩
      have hk0 : Keep v0 z5.heap.size 0 (fun _ => nilS) nilS := by rw [E]; exact Keep.new z5 _
      have hW0 := Lib.hid (show Below z5.heap.size z5 v0 from by rw [E]; exact (Below.refl _ _).alloc (Nat.le_refl _) _)
      rw [← E] at ⊢
      obtain ⟨b, hbb⟩ : ∃ b, b = z5.heap.size := ⟨_, rfl⟩
      rw [← hbb] at hk0 ⊢
      have HBB := Lib.hid hbb
      have K0 := Lib.hid hk0
      clear E hk0 hbb u1 u2 u3
      obtain ⟨u1, u2, u3, -, -⟩ := (P1.out.below (belowTo hZw.out hW0.out)).facts
      go_wp2_with fail
      refine (book_Int b 0 (fun _ => nilS) nilS n1 (some ⟨g1, 0, none⟩) xs.length (xs.length + 1) (by omega) _ K0.out).mono ?_
      rintro e v1 ⟨rfl, lims1, hk, hb⟩
      have hW1 := Lib.hid (hW0.out.trans (HBB.out ▸ hb))
      have K1 := Lib.hid hk
      clear u1 u2 u3 hk hb K0
      obtain ⟨u1, u2, u3, -, -⟩ := (P2.out.below (belowTo hZw.out hW1.out)).facts
      go_wp2_with fail
      refine (book_Int b 1 (updV (fun _ => nilS) 0 (.slice (some ⟨g1, 0, none⟩) xs.length (xs.length + 1))) lims1 n2 (some ⟨g2, 0, none⟩) ys.length (ys.length + 1) (by omega) _ K1.out).mono ?_
      rintro e v2 ⟨rfl, lims2, hk, hb⟩
      have hW2 := Lib.hid (hW1.out.trans (HBB.out ▸ hb))
      have K2 := Lib.hid hk
      clear u1 u2 u3 hk hb K1
      obtain ⟨u1, u2, u3, -, -⟩ := (N0.out.pair.below (belowTo hZ5.out hW2.out)).facts
      go_wp2_with fail
      refine (book_Int b 2 (updV (updV (fun _ => nilS) 0 (.slice (some ⟨g1, 0, none⟩) xs.length (xs.length + 1))) 1 (.slice (some ⟨g2, 0, none⟩) ys.length (ys.length + 1))) lims2 (decide (r0 < 0)) A0 (natL r0.natAbs).length c0 (by omega) _ K2.out).mono ?_
      rintro e v3 ⟨rfl, lims3, hk, hb⟩
      have hW3 := Lib.hid (hW2.out.trans (HBB.out ▸ hb))
      have K3 := Lib.hid hk
      clear u1 u2 u3 hk hb K2
      obtain ⟨u1, u2, u3, -, -⟩ := (N1.out.pair.below (belowTo hZ5.out hW3.out)).facts
      go_wp2_with fail
      refine (book_Int b 3 (updV (updV (updV (fun _ => nilS) 0 (.slice (some ⟨g1, 0, none⟩) xs.length (xs.length + 1))) 1 (.slice (some ⟨g2, 0, none⟩) ys.length (ys.length + 1))) 2 (.slice A0 (natL r0.natAbs).length c0)) lims3 (decide (r1 < 0)) A1 (natL r1.natAbs).length c1 (by omega) _ K3.out).mono ?_
      rintro e v4 ⟨rfl, lims4, hk, hb⟩
      have hW4 := Lib.hid (hW3.out.trans (HBB.out ▸ hb))
      have K4 := Lib.hid hk
      clear u1 u2 u3 hk hb K3
      obtain ⟨u1, u2, u3, -, -⟩ := (N2.out.pair.below (belowTo hZ5.out hW4.out)).facts
      go_wp2_with fail
      refine (book_Int b 4 (updV (updV (updV (updV (fun _ => nilS) 0 (.slice (some ⟨g1, 0, none⟩) xs.length (xs.length + 1))) 1 (.slice (some ⟨g2, 0, none⟩) ys.length (ys.length + 1))) 2 (.slice A0 (natL r0.natAbs).length c0)) 3 (.slice A1 (natL r1.natAbs).length c1)) lims4 (decide (r2 < 0)) A2 (natL r2.natAbs).length c2 (by omega) _ K4.out).mono ?_
      rintro e v5 ⟨rfl, lims5, hk, hb⟩
      have hW5 := Lib.hid (hW4.out.trans (HBB.out ▸ hb))
      have K5 := Lib.hid hk
      clear u1 u2 u3 hk hb K4
      have HF := Lib.hid (apart_rows b w.heap.size [.slice (some ⟨g1, 0, none⟩) xs.length (xs.length + 1), .slice (some ⟨g2, 0, none⟩) ys.length (ys.length + 1), .slice A0 (natL r0.natAbs).length c0, .slice A1 (natL r1.natAbs).length c1, .slice A2 (natL r2.natAbs).length c2] lims5 w v5 (by simp) (by simp) (K5.out.cong (fun j hj => by
        rcases (by omega : j = 0 ∨ j = 1 ∨ j = 2 ∨ j = 3 ∨ j = 4) with rfl | rfl | rfl | rfl | rfl <;> rfl)) (by rw [HBB.out]; exact HR.out.below hW5.out) (belowTo hlow.out hW5.out))
      clear HR K5
      go_wp2_with fail
      refine HF.out.mono ?_
      rintro e wf ⟨rfl, hbf⟩
      go_wp2_with fail
      go_ret
      exact ⟨rfl, hbf⟩
end Go.Proofs.YtpcdiijmhllejaaGreatDoor
