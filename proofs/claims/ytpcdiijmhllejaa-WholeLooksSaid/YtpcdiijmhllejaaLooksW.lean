/- WholeLooks: the walk. -/
import Derived.Test.YtpcdiijmhllejaaRefInt64Mid
import Derived.Test.YtpcdiijmhllejaaTwin
import Derived.Test.YtpcdiijmhllejaaSmallW
import Derived.Deep.RegionWith
import Derived.Deep.DeepCutAuto
namespace Go.Proofs.Ytpcdiijmhllejaa
open Go.RowKit

theorem beyond_two (n m : Nat) (hn : n ≤ 1152921504606846975) (hm : m ≤ 1152921504606846975) (A : Option Addr) (V : World) (B : Nat) (h : Reads V B 1 A 2 (cellsI [1 + n, 1 + m])) :
    Calls Try.prog 14 #[.slice A 2 2] V fun e w' => e = .returned (.bool (decide (1048576 < 2 + n + m))) ∧ Below V.heap.size V w' := by
  refine (beyond_any A 2 [1 + n, 1 + m] (by simp) (by intro z hz; simp at hz; omega) V B h).mono ?_
  rintro e w' ⟨rfl, rfl⟩
  refine ⟨?_, Below.refl _ _⟩
  rw [show [1 + n, 1 + m].sum = 2 + n + m by simp; omega]

theorem Reads.new2 (w : World) (t : TypeId) (a b : Value) : Reads (w.alloc (.cells #[a, b] t)) (w.heap.size + 1) 1 (some ⟨w.heap.size, 0, none⟩) 2 [a, b] :=
  ⟨rfl, fun _ => ⟨⟨w.heap.size, 0, none⟩, rfl, by simp, fun j u hu => by
    have hj : j < 2 := (List.getElem?_eq_some_iff.1 hu).1
    rw [show (⟨w.heap.size, 0, none⟩ : Addr).add j = ⟨w.heap.size, j, none⟩ by unfold Addr.add; split <;> simp_all, (Blk.new w t #[a, b]).cell j, ← hu]
    simp⟩⟩
theorem beyond_new (n m : Nat) (hn : n ≤ 1152921504606846975) (hm : m ≤ 1152921504606846975) (t : TypeId) (V : World) :
    Calls Try.prog 14 #[.slice (some ⟨V.heap.size, 0, none⟩) 2 2] (V.alloc (.cells #[.int .i64 (1 + (n : Int)), .int .i64 (1 + (m : Int))] t)) fun e w' => e = .returned (.bool (decide (1048576 < 2 + n + m))) ∧ Below (V.alloc (.cells #[.int .i64 (1 + (n : Int)), .int .i64 (1 + (m : Int))] t)).heap.size (V.alloc (.cells #[.int .i64 (1 + (n : Int)), .int .i64 (1 + (m : Int))] t)) w' := by
  refine beyond_two n m hn hm _ _ (V.heap.size + 1) ?_
  have e : cellsI [1 + n, 1 + m] = [.int .i64 (1 + (n : Int)), .int .i64 (1 + (m : Int))] := by simp [cellsI]
  rw [e]
  exact Reads.new2 V t _ _

theorem below_one {W w : World} (h : Below W.heap.size W w) (o : Obj) : Below W.heap.size W (w.alloc o) := h.alloc h.size o
theorem below_two {W w : World} (h : Below W.heap.size W w) (o p : Obj) : Below W.heap.size W ((w.alloc o).alloc p) := (h.alloc h.size o).alloc (by have := h.size; simp; omega) p

theorem TwinAt.far2 {w : World} {g g' : Nat} {xs : List Nat} (h : TwinAt w g xs) (hn : g ≠ g') (a b : Value) : TwinAt ((w.setCell ⟨g', 0, none⟩ a).setCell ⟨g', 1, none⟩ b) g xs := ⟨h.blk.far2 hn a b⟩
theorem Pair.new' {w : World} {g : Nat} (h : g = w.heap.size) (t : TypeId) (a b : Value) : Pair (w.alloc (.cells #[a, b] t)) g t a b := h ▸ Pair.new w t a b
theorem keep_of {W w' : World} (q : Below W.heap.size W w') : Below W.heap.size W w' ∧ ∀ b o, b < W.heap.size → w'.cell? ⟨b, o, none⟩ = W.cell? ⟨b, o, none⟩ :=
  ⟨q, fun b o h => q.cell (p := ⟨b, o, none⟩) h⟩

set_option maxRecDepth 100000 in
set_option maxHeartbeats 2000000 in
theorem looks_true (n1 n2 : Bool) (A B : Option Addr) (c d : Nat) (xs ys : List Nat) (w : World) (h : Raw w A c xs) (g : Raw w B d ys) (hx : xs.length ≤ 1152921504606846975) (hy : ys.length ≤ 1152921504606846975) :
    Calls Try.prog 4 #[.agg #[.bool n1, .slice A xs.length c], .agg #[.bool n2, .slice B ys.length d]] w fun e w' => e = .returned (.bool true) ∧ Below w.heap.size w w' := by
  have px := (Pair.new w 24 (.bool n1) (.slice A xs.length c)).alloc (.cells #[.bool n2, .slice B ys.length d] 24)
  have py := Pair.new (w.alloc (.cells #[.bool n1, .slice A xs.length c] 24)) 24 (.bool n2) (.slice B ys.length d)
  have rx := (h.alloc (.cells #[.bool n1, .slice A xs.length c] 24)).alloc (.cells #[.bool n2, .slice B ys.length d] 24)
  have ry := (g.alloc (.cells #[.bool n1, .slice A xs.length c] 24)).alloc (.cells #[.bool n2, .slice B ys.length d] 24)
  have b0 := ((Below.refl w.heap.size w).alloc (Nat.le_refl _) (.cells #[.bool n1, .slice A xs.length c] 24)).alloc (by simp) (.cells #[.bool n2, .slice B ys.length d] 24)
  have D1 := fun V => intSize_any n1 A c xs.length hx V
  have D2 := fun V => intSize_any n2 B d ys.length hy V
  have D3 := fun V => beyond_new xs.length ys.length hx hy 3 V
  have H1 := Lib.hid D1
  have H2 := Lib.hid D2
  have H3 := Lib.hid D3
  have RX := Lib.hid rx
  have RY := Lib.hid ry
  clear D1 D2 D3 h g rx ry
  go_enter Try.func4, Try.ntmps4
  go_wp2_with fail
  rw [show (w.alloc (.cells #[.bool n1, .slice A xs.length c] 24)).heap.size = w.heap.size + 1 by simp] at py
  obtain ⟨W, E⟩ : ∃ W, W = (w.alloc (.cells #[.bool n1, .slice A xs.length c] 24)).alloc (.cells #[.bool n2, .slice B ys.length d] 24) := ⟨_, rfl⟩
  rw [← E] at px py b0 RX RY ⊢
  clear E
  obtain ⟨l1, x0, x1, -, -⟩ := px.facts
  obtain ⟨l2, y0, y1, -, -⟩ := py.facts
  have PX := Lib.hid px
  have PY := Lib.hid py
  clear px py
  by_cases hb : 1048576 < 2 + xs.length + ys.length
  · have HB := Lib.hid (decide_eq_true hb)
    clear hb
    go_region_held3 (fun w' => Below W.heap.size W w' ∧ ∀ b o, b < W.heap.size → w'.cell? ⟨b, o, none⟩ = W.cell? ⟨b, o, none⟩)
      (first
        | exact ⟨(Below.refl _ _).drew, fun _ _ _ => rfl⟩
        | (obtain ⟨q, _⟩ := ‹Below W.heap.size W _ ∧ _›; have q' := belowTo q hbx; exact ⟨q', fun b o h => q'.cell (p := ⟨b, o, none⟩) h⟩)
        | (obtain ⟨q, _⟩ := ‹Below W.heap.size W _ ∧ _›; refine have q' := q.alloc q.size _; ⟨q', fun b o h => q'.cell (p := ⟨b, o, none⟩) h⟩))
      (first
        | (go_at_call 15; with_reducible refine (H1.out _).mono ?_; rintro e wx ⟨rfl, hbx⟩)
        | (go_at_call 15; with_reducible refine (H2.out _).mono ?_; rintro e wx ⟨rfl, hbx⟩)
        | (go_at_call 14; with_reducible refine (H3.out _).mono ?_; rintro e wx ⟨rfl, hbx⟩; rw [HB.out]))
    obtain ⟨q, _⟩ := ‹Below W.heap.size W _ ∧ _›
    go_wp2_with fail
    go_ret
    exact ⟨rfl, b0.trans (q.mono b0.size)⟩
  · have HB := Lib.hid (decide_eq_false hb)
    clear l1 x0 x1 l2 y0 y1
    obtain ⟨l1, x0, x1, -, -⟩ := PX.out.facts
    obtain ⟨l2, y0, y1, -, -⟩ := PY.out.facts
    go_region_held3 (fun w' => Below W.heap.size W w' ∧ ∀ b o, b < W.heap.size → w'.cell? ⟨b, o, none⟩ = W.cell? ⟨b, o, none⟩)
      (first
        | exact ⟨(Below.refl _ _).drew, fun _ _ _ => rfl⟩
        | (obtain ⟨q, _⟩ := ‹Below W.heap.size W _ ∧ _›; have q' := belowTo q hbx; exact ⟨q', fun b o h => q'.cell (p := ⟨b, o, none⟩) h⟩)
        | (obtain ⟨q, _⟩ := ‹Below W.heap.size W _ ∧ _›; refine have q' := q.alloc q.size _; ⟨q', fun b o h => q'.cell (p := ⟨b, o, none⟩) h⟩))
      (first
        | (go_at_call 15; with_reducible refine (H1.out _).mono ?_; rintro e wx ⟨rfl, hbx⟩)
        | (go_at_call 15; with_reducible refine (H2.out _).mono ?_; rintro e wx ⟨rfl, hbx⟩)
        | (go_at_call 14; with_reducible refine (H3.out _).mono ?_; rintro e wx ⟨rfl, hbx⟩; rw [HB.out]))
    obtain ⟨q, qc⟩ := ‹Below W.heap.size W _ ∧ _›
    clear H1 H2 H3 HB x0 x1 l1 y0 y1 l2
    have B0 := b0.trans (q.mono b0.size)
    have RX1 := Lib.hid (RX.out.below q)
    have RY1 := Lib.hid (RY.out.below q)
    have PX1 := Lib.hid (PX.out.below q)
    have PY1 := Lib.hid (PY.out.below q)
    clear RX RY PX PY qc b0 q
    have D4 := fun (V : World) (hV : Below wx.heap.size wx V) => twin_any n1 A c xs V (RX1.out.below hV) (by omega)
    have D5 := fun (V : World) (hV : Below wx.heap.size wx V) => twin_any n2 B d ys V (RY1.out.below hV) (by omega)
    have H4 := Lib.hid D4
    have H5 := Lib.hid D5
    have hlim : xs.length ≤ 1048576 ∧ ys.length ≤ 1048576 := by omega
    have HL := Lib.hid hlim
    clear hb hlim D4 D5
    go_upto_region 3 with fail
    go_cut [5, 6] (fun s5 s6 wz => ∃ g1 g2 b1 b2 : Nat, s5 = .pointer (some ⟨b1, 0, none⟩) ∧ s6 = .pointer (some ⟨b2, 0, none⟩) ∧ Below wx.heap.size wx wz ∧ TwinAt wz g1 xs ∧ TwinAt wz g2 ys ∧
      Pair wz b1 24 (.bool n1) (.slice (some ⟨g1, 0, none⟩) xs.length (xs.length + 1)) ∧ Pair wz b2 24 (.bool n2) (.slice (some ⟨g2, 0, none⟩) ys.length (ys.length + 1)))
    case first =>
      have qq : Below wx.heap.size wx wx := Below.refl _ _
      obtain ⟨l1, x0, x1, -, -⟩ := PX1.out.facts
      obtain ⟨l2, y0, y1, -, -⟩ := PY1.out.facts
      go_region_held3 (fun w' => Below wx.heap.size wx w' ∧ ∀ b o, b < wx.heap.size → w'.cell? ⟨b, o, none⟩ = wx.cell? ⟨b, o, none⟩)
        (((with_reducible refine keep_of ?_); (repeat' (with_reducible first | exact qb | exact qa | exact qq | refine Below.drew ?_ | refine below_one ?_ _ | refine below2 ?_ ?_ _ _ | exact Nat.le_refl _ | omega | (have := qb.size; omega) | (have := qa.size; omega) | (have := qb.size; simp; omega) | (have := qa.size; simp; omega)))))
        (first
        | (go_at_call 16
           with_reducible refine (H4.out _ ?_).mono ?_
           with_reducible first | exact qq.drew | exact (below_one qq _).drew | exact (below_two qq _ _).drew
           rintro e wa ⟨g1, rfl, t1, m1, hba⟩
           have qa : Below wx.heap.size wx wa := by with_reducible first | exact belowTo qq.drew hba | exact belowTo (below_one qq _).drew hba | exact belowTo (below_two qq _ _).drew hba
           try (have na := (by with_reducible exact ((Pair.new _ 24 (.bool false) (.slice none 0 0)).drew).below hba); (try simp at na); obtain ⟨na1, na2, na3, na4, na5⟩ := na.facts)
           try (have nb := (by with_reducible exact (((Pair.new _ 24 (.bool false) (.slice none 0 0)).alloc _).drew).below hba); (try simp at nb); obtain ⟨nb1, nb2, nb3, nb4, nb5⟩ := nb.facts)
           obtain ⟨k1, k2, k3, -, -⟩ := (PY1.out.below qa).facts
           have k0 : w.heap.size < wa.heap.size := by omega
           clear l1 x0 x1 l2 y0 y1)
        | (go_at_call 16
           with_reducible refine (H5.out _ ?_).mono ?_
           with_reducible first | exact qa | exact below_one qa _ | exact below_two qa _ _
           rintro e wb ⟨g2, rfl, t2, m2, hbb⟩
           have qb : Below wx.heap.size wx wb := by with_reducible first | exact belowTo qa hbb | exact belowTo (below_one qa _) hbb | exact belowTo (below_two qa _ _) hbb
           have t1b : TwinAt wb g1 xs := by with_reducible first | exact t1.below hbb | exact (t1.alloc _).below hbb | exact ((t1.alloc _).alloc _).below hbb
           try (have nc := (by with_reducible exact (Pair.new _ 24 (.bool false) (.slice none 0 0)).below hbb); (try simp at nc); obtain ⟨nc1, nc2, nc3, nc4, nc5⟩ := nc.facts)
           try (have nd := (by with_reducible exact ((Pair.new _ 24 (.bool false) (.slice none 0 0)).alloc _).below hbb); (try simp at nd); obtain ⟨nd1, nd2, nd3, nd4, nd5⟩ := nd.facts)
           try (have ne := (show Pair wb _ _ _ _ by with_reducible first | exact na.below hbb | exact (na.alloc _).below hbb); (try simp at ne); obtain ⟨ne1, ne2, ne3, ne4, ne5⟩ := ne.facts)
           try (have nf := (by with_reducible exact nb.below hbb); (try simp at nf); obtain ⟨nf1, nf2, nf3, nf4, nf5⟩ := nf.facts)))
      all_goals (go_wp2_with fail; go_meet)
      all_goals
        have e1 := t1.blk.lt
        have e2 := t2.blk.lt
        (try simp at m1)
        (try simp at m2)
        refine ⟨g1, g2, _, _, rfl, rfl, ?_, ?_, ?_, ?_, ?_⟩
        · repeat' (with_reducible first | exact qb | refine below_one ?_ _ | refine below2 ?_ ?_ _ _ | exact Nat.le_refl _ | omega | (have := qb.size; omega) | (have := qa.size; omega))
        · repeat' (with_reducible first | exact t1b | refine TwinAt.alloc ?_ _ | refine TwinAt.far2 ?_ ?_ _ _ | omega)
        · repeat' (with_reducible first | exact t2 | refine TwinAt.alloc ?_ _ | refine TwinAt.far2 ?_ ?_ _ _ | omega)
        · repeat' (with_reducible first | exact Pair.new' (by simp) _ _ _ | exact Pair.store (by assumption) _ _ | exact Pair.store (Pair.far (by assumption) (by omega) _ _) _ _ | refine Pair.alloc ?_ _ | refine Pair.far ?_ ?_ _ _ | omega)
        · repeat' (with_reducible first | exact Pair.new' (by simp) _ _ _ | exact Pair.store (by assumption) _ _ | exact Pair.store (Pair.far (by assumption) (by omega) _ _) _ _ | refine Pair.alloc ?_ _ | refine Pair.far ?_ ?_ _ _ | omega)
    case rest =>
      obtain ⟨g1, g2, b1, b2, rfl, rfl, qz, t1, t2, p1, p2⟩ := hcut
      have B1 := B0.trans (qz.mono B0.size)
      have rx := RX1.out.below qz
      have ry := RY1.out.below qz
      have px := PX1.out.below qz
      have py := PY1.out.below qz
      have ra := t1.raw rx.limbs (by omega)
      have rb := t2.raw ry.limbs (by omega)
      clear RX1 RY1 PX1 PY1 H4 H5 qz
      obtain ⟨u1, u2, u3, -, -⟩ := p1.facts
      go_wp2_with fail
      have C1 := whole_Int64_any n1 (some ⟨g1, 0, none⟩) (xs.length + 1) xs _ ra
      have HC := Lib.hid C1
      clear C1
      refine HC.out.mono ?_
      rintro e wd ⟨rfl, hbd⟩
      have B2 := B1.trans (hbd.mono B1.size)
      have rx := rx.below hbd
      have ry := ry.below hbd
      have px := px.below hbd
      have py := py.below hbd
      have p1 := p1.below hbd
      have p2 := p2.below hbd
      have t1 := t1.below hbd
      have t2 := t2.below hbd
      have ra := ra.below hbd
      have rb := rb.below hbd
      clear B1 u1 u2 u3 HC hbd
      have C2 := ref_Int64_any n1 A c xs _ rx
      have HC := Lib.hid C2
      clear C2
      obtain ⟨u1, u2, u3, -, -⟩ := px.facts
      generalize (if okI n1 xs = true then i64V n1 (val xs) else 0) = vn at HC ⊢
      generalize (okI n1 xs && i64B n1 (val xs)) = vb at HC ⊢
      go_wp2_with fail
      refine HC.out.mono ?_
      rintro e we ⟨rfl, hbe⟩
      have B3 := B2.trans (hbe.mono B2.size)
      have rx := rx.below hbe
      have ry := ry.below hbe
      have px := px.below hbe
      have py := py.below hbe
      have p1 := p1.below hbe
      have p2 := p2.below hbe
      have t1 := t1.below hbe
      have t2 := t2.below hbe
      have ra := ra.below hbe
      have rb := rb.below hbe
      clear B2 u1 u2 u3 HC hbe
      go_wp2_with fail
      obtain ⟨u1, u2, u3, -, -⟩ := px.facts
      obtain ⟨v1, v2, v3, -, -⟩ := py.facts
      obtain ⟨r1, r2, r3, -, -⟩ := p1.facts
      obtain ⟨s1, s2, s3, -, -⟩ := p2.facts
      have D1 := fun (V : World) (hV : Below we.heap.size we V) => whole_Check_any n1 _ _ xs V (ra.below hV)
      have D2 := fun (V : World) (hV : Below we.heap.size we V) => ref_Check_any n1 A c xs V (rx.below hV)
      have D3 := fun (V : World) (hV : Below we.heap.size we V) => whole_Sign_any n1 _ _ xs V (ra.below hV)
      have D4 := fun (V : World) (hV : Below we.heap.size we V) => ref_SignOf_any n1 A c xs V (rx.below hV)
      have D5 := fun (V : World) (hV : Below we.heap.size we V) => whole_Bits_any n1 _ _ xs V (ra.below hV)
      have D6 := fun (V : World) (hV : Below we.heap.size we V) => ref_BitsOf_any n1 A c xs V (rx.below hV)
      have D7 := fun (V : World) (hV : Below we.heap.size we V) => whole_Cmp_any n1 n2 _ _ _ _ xs ys V (ra.below hV) (rb.below hV)
      have D8 := fun (V : World) (hV : Below we.heap.size we V) => ref_CmpOf_any n1 n2 A B c d xs ys V (rx.below hV) (ry.below hV)
      have D9 := fun (V : World) (hV : Below we.heap.size we V) => whole_Cmp_any n2 n1 _ _ _ _ ys xs V (rb.below hV) (ra.below hV)
      have D10 := fun (V : World) (hV : Below we.heap.size we V) => ref_CmpOf_any n2 n1 B A d c ys xs V (ry.below hV) (rx.below hV)
      have D11 := fun (V : World) (hV : Below we.heap.size we V) => left_any n1 A c g1 xs V (rx.below hV) (t1.below hV) HL.out.1
      have D12 := fun (V : World) (hV : Below we.heap.size we V) => left_any n2 B d g2 ys V (ry.below hV) (t2.below hV) HL.out.2
      clear ra rb rx ry t1 t2 px py p1 p2
      generalize (if okI n1 xs = true then sgnI n1 xs else 0) = e1 at D3 D4
      generalize (if okI n1 xs = true then (bitsI xs : Int) else 0) = e2 at D5 D6
      generalize errI n1 xs = e0 at D1 D2
      generalize (if okI n1 xs && okI n2 ys then cmpz (ival n1 xs) (ival n2 ys) else 0) = e3 at D7 D8
      generalize (if okI n2 ys && okI n1 xs then cmpz (ival n2 ys) (ival n1 xs) else 0) = e4 at D9 D10
      have H1 := Lib.hid D1
      have H2 := Lib.hid D2
      have H3 := Lib.hid D3
      have H4 := Lib.hid D4
      have H5 := Lib.hid D5
      have H6 := Lib.hid D6
      have H7 := Lib.hid D7
      have H8 := Lib.hid D8
      have H9 := Lib.hid D9
      have H10 := Lib.hid D10
      have H11 := Lib.hid D11
      have H12 := Lib.hid D12
      clear D1 D2 D3 D4 D5 D6 D7 D8 D9 D10 D11 D12
      go_region_held3 (fun w' => Below we.heap.size we w' ∧ ∀ b o, b < we.heap.size → w'.cell? ⟨b, o, none⟩ = we.cell? ⟨b, o, none⟩)
        (first
          | exact ⟨(Below.refl _ _).drew, fun _ _ _ => rfl⟩
          | (obtain ⟨q, _⟩ := ‹Below we.heap.size we _ ∧ _›; have q' := belowTo q hbx; exact ⟨q', fun b o h => q'.cell (p := ⟨b, o, none⟩) h⟩))
        (first
          | (go_at_call 9; with_reducible refine (H1.out _ ?_).mono ?_; exact (‹Below we.heap.size we _ ∧ _›).1; rintro e wx ⟨rfl, hbx⟩)
          | (go_at_call 18; with_reducible refine (H2.out _ ?_).mono ?_; exact (‹Below we.heap.size we _ ∧ _›).1; rintro e wx ⟨rfl, hbx⟩)
          | (go_at_call 10; with_reducible refine (H3.out _ ?_).mono ?_; exact (‹Below we.heap.size we _ ∧ _›).1; rintro e wx ⟨rfl, hbx⟩)
          | (go_at_call 19; with_reducible refine (H4.out _ ?_).mono ?_; exact (‹Below we.heap.size we _ ∧ _›).1; rintro e wx ⟨rfl, hbx⟩)
          | (go_at_call 12; with_reducible refine (H5.out _ ?_).mono ?_; exact (‹Below we.heap.size we _ ∧ _›).1; rintro e wx ⟨rfl, hbx⟩)
          | (go_at_call 20; with_reducible refine (H6.out _ ?_).mono ?_; exact (‹Below we.heap.size we _ ∧ _›).1; rintro e wx ⟨rfl, hbx⟩))
      obtain ⟨q, qc⟩ := ‹Below we.heap.size we _ ∧ _›
      go_wp2_with fail
      go_region_held3 (fun w' => Below we.heap.size we w' ∧ ∀ b o, b < we.heap.size → w'.cell? ⟨b, o, none⟩ = we.cell? ⟨b, o, none⟩)
        (first
          | exact ⟨q.drew, qc⟩
          | (obtain ⟨q, _⟩ := ‹Below we.heap.size we _ ∧ _›; have q' := belowTo q hbx; exact ⟨q', fun b o h => q'.cell (p := ⟨b, o, none⟩) h⟩))
        (first
          | (go_at_call 21; with_reducible refine (H7.out _ ?_).mono ?_; exact (‹Below we.heap.size we _ ∧ _›).1; rintro e wx ⟨rfl, hbx⟩)
          | (go_at_call 21; with_reducible refine (H9.out _ ?_).mono ?_; exact (‹Below we.heap.size we _ ∧ _›).1; rintro e wx ⟨rfl, hbx⟩)
          | (go_at_call 22; with_reducible refine (H8.out _ ?_).mono ?_; exact (‹Below we.heap.size we _ ∧ _›).1; rintro e wx ⟨rfl, hbx⟩)
          | (go_at_call 22; with_reducible refine (H10.out _ ?_).mono ?_; exact (‹Below we.heap.size we _ ∧ _›).1; rintro e wx ⟨rfl, hbx⟩)
          | (go_at_call 23; with_reducible refine (H11.out _ ?_).mono ?_; exact (‹Below we.heap.size we _ ∧ _›).1; rintro e wx ⟨rfl, hbx⟩)
          | (go_at_call 23; with_reducible refine (H12.out _ ?_).mono ?_; exact (‹Below we.heap.size we _ ∧ _›).1; rintro e wx ⟨rfl, hbx⟩))
      obtain ⟨q2, _⟩ := ‹Below we.heap.size we _ ∧ _›
      go_wp2_with fail
      go_ret
      exact ⟨rfl, B3.trans (q2.mono B3.size)⟩
end Go.Proofs.Ytpcdiijmhllejaa
