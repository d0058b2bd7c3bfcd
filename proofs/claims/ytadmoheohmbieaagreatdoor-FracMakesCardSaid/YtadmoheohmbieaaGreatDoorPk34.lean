/- Several texts in one: FVar, FRefMake, FChecks. -/
import Derived.Test.YtadmoheohmbieaaGreatDoorPk22
import Derived.Test.YtadmoheohmbieaaGreatDoorPk29
import Derived.Test.YtadmoheohmbieaaGreatDoorPk30
import Derived.Test.YtadmoheohmbieaaGreatDoorPk31
import Derived.Test.YtadmoheohmbieaaGreatDoorPk33
import Derived.Test.YtadmoheohmbieaaGreatDoorPk14
import Derived.Test.YtadmoheohmbieaaGreatDoorPk25
import Derived.Test.YtadmoheohmbieaaGreatDoorPk23
import Derived.Test.YtadmoheohmbieaaGreatDoorPk28
import Derived.Test.YtadmoheohmbieaaGreatDoorPk10
/- Variables of fractions in the laws' walks; what a law may cost; rows of a Book. -/
namespace Go.Proofs.YtadmoheohmbieaaGreatDoor
open Go.RowKit

/-- A variable that holds a fraction of the call's own: its block, its limbs from lo on and below hi. -/
structure FVar (w : World) (g : Nat) (n d : Int) (A : Option Addr) (c : Nat) (B : Option Addr) (e lo hi : Nat) : Prop where
  quad : Quad w g (.bool (decide (n < 0))) (.slice A (natL n.natAbs).length c) (.bool (decide (d < 0))) (.slice B (natL d.natAbs).length e)
  own : FracOwn w lo (.agg #[.bool (decide (n < 0)), .slice A (natL n.natAbs).length c, .bool (decide (d < 0)), .slice B (natL d.natAbs).length e]) n d
  top1 : ∀ x, (Value.slice A (natL n.natAbs).length c).ownBlock = some x → x < hi
  top2 : ∀ x, (Value.slice B (natL d.natAbs).length e).ownBlock = some x → x < hi
theorem FracOwn.below {w w' : World} {lo : Nat} {v : Value} {n d : Int} (h : FracOwn w lo v n d) (hb : Below w.heap.size w w') : FracOwn w' lo v n d := by
  obtain ⟨A, c, B, e, h1, h2, h3, h4⟩ := h.form
  exact ⟨A, c, B, e, h1, h2.below hb, h3.below hb, h4⟩
theorem FVar.below {w w' : World} {g c e lo hi : Nat} {n d : Int} {A B : Option Addr} (h : FVar w g n d A c B e lo hi) (hb : Below w.heap.size w w') : FVar w' g n d A c B e lo hi := ⟨h.quad.below hb, h.own.below hb, h.top1, h.top2⟩
theorem FracOwn.rows {w : World} {lo c e : Nat} {n d : Int} {A B : Option Addr} (h : FracOwn w lo (.agg #[.bool (decide (n < 0)), .slice A (natL n.natAbs).length c, .bool (decide (d < 0)), .slice B (natL d.natAbs).length e]) n d) :
    (∃ X, w.ownsRow lo tLimb 1 (.slice A (natL n.natAbs).length c) (natL n.natAbs).length X) ∧ (∃ X, w.ownsRow lo tLimb 1 (.slice B (natL d.natAbs).length e) (natL d.natAbs).length X) ∧
    ∀ g, (Value.slice A (natL n.natAbs).length c).ownBlock = some g → (Value.slice B (natL d.natAbs).length e).ownBlock ≠ some g := by
  obtain ⟨A', c', B', e', h1, h2, h3, h4⟩ := h.form
  simp only [Value.agg.injEq, Array.mk.injEq, List.cons.injEq, Value.slice.injEq, and_true, true_and] at h1
  obtain ⟨⟨rfl, rfl⟩, rfl, rfl⟩ := h1
  obtain ⟨A1, c1, p1, p2, p3, p4⟩ := h2.form
  obtain ⟨A2, c2, q1, q2, q3, q4⟩ := h3.form
  simp only [Value.agg.injEq, Array.mk.injEq, List.cons.injEq, Value.slice.injEq, and_true, true_and] at p1 q1
  obtain ⟨rfl, rfl⟩ := p1
  obtain ⟨rfl, rfl⟩ := q1
  exact ⟨⟨_, p4⟩, ⟨_, q4⟩, h4⟩
theorem FVar.new {w : World} {c e lo : Nat} {n d : Int} {A B : Option Addr} (h : FracOwn w lo (.agg #[.bool (decide (n < 0)), .slice A (natL n.natAbs).length c, .bool (decide (d < 0)), .slice B (natL d.natAbs).length e]) n d) :
    FVar (w.alloc (.cells #[.bool (decide (n < 0)), .slice A (natL n.natAbs).length c, .bool (decide (d < 0)), .slice B (natL d.natAbs).length e] 30)) w.heap.size n d A c B e lo w.heap.size := by
  obtain ⟨⟨X, r1⟩, ⟨Y, r2⟩, -⟩ := h.rows
  exact ⟨Quad.new w _ _ _ _, h.below ((Below.refl _ _).alloc (Nat.le_refl _) _), fun x hx => (r1.lt x hx).2, fun x hx => (r2.lt x hx).2⟩
theorem FVar.at_ {w : World} {g c e lo hi : Nat} {n d : Int} {A B : Option Addr} (h : FVar w g n d A c B e lo hi) : FracAt w (.agg #[.bool (decide (n < 0)), .slice A (natL n.natAbs).length c, .bool (decide (d < 0)), .slice B (natL d.natAbs).length e]) n d := h.own.at_
theorem FV.at_ {w : World} {g c e : Nat} {n d : Int} {A B : Option Addr} (h : FV w g n d A c B e) : FracAt w (.agg #[.bool (decide (n < 0)), .slice A (natL n.natAbs).length c, .bool (decide (d < 0)), .slice B (natL d.natAbs).length e]) n d := ⟨_, _, _, _, rfl, h.num, h.den⟩
theorem FV.new {w : World} {c e : Nat} {n d : Int} {A B : Option Addr} (h : Raw w A c (natL n.natAbs)) (g : Raw w B e (natL d.natAbs)) :
    FV (w.alloc (.cells #[.bool (decide (n < 0)), .slice A (natL n.natAbs).length c, .bool (decide (d < 0)), .slice B (natL d.natAbs).length e] 30)) w.heap.size n d A c B e := ⟨Quad.new w _ _ _ _, h.alloc _, g.alloc _⟩
theorem RowsIn.frac {w : World} {lo0 lo hi g c e : Nat} {n d : Int} {A B : Option Addr} {vs : List Value} (h : RowsIn w lo0 vs lo) (v : FVar w g n d A c B e lo hi) (hn : lz n ≤ 1073741824) (hd : lz d ≤ 1073741824) (hh : lo ≤ hi) :
    RowsIn w lo0 (vs ++ [.slice A (natL n.natAbs).length c, .slice B (natL d.natAbs).length e]) hi := by
  obtain ⟨⟨X, r1⟩, ⟨Y, r2⟩, h4⟩ := v.own.rows
  exact h.snoc2 hn hd r1 r2 v.top1 v.top2 hh h4
theorem mk_fit (n1 n2 : Bool) (xs ys : List Nat) (hx : Limbs xs) (hy : Limbs ys) : lz (mkN n1 n2 xs ys) ≤ 2048 ∧ lz (mkD n1 n2 xs ys) ≤ 2048 := by
  unfold mkN mkD mkOk
  cases o1 : okI n1 xs with
  | false => simp; decide
  | true =>
    cases o2 : okI n2 ys with
    | false => simp; decide
    | true =>
      have f1 : lz (ival n1 xs) ≤ 2048 := (ok_num hx o1).2.2
      have f2 : lz (ival n2 ys) ≤ 2048 := (ok_num hy o2).2.2
      simp only [Bool.and_true, if_true]
      split
      · decide
      · exact ⟨Nat.le_trans (lowN_lz _ _) f1, Nat.le_trans (lowD_lz _ _) f2⟩
theorem mk_z (n d : Int) (fn : Fit n) (fd : Fit d) : mkN (decide (n < 0)) (decide (d < 0)) (natL n.natAbs) (natL d.natAbs) = zN n d ∧ mkD (decide (n < 0)) (decide (d < 0)) (natL n.natAbs) (natL d.natAbs) = zD n d ∧ mkE (decide (n < 0)) (decide (d < 0)) (natL n.natAbs) (natL d.natAbs) = zE d := by
  unfold mkN mkD mkE mkOk zN zD zE
  rw [fn.ok, fd.ok, ival_at, ival_at]
  exact ⟨rfl, rfl, rfl⟩
/-- Costs of a list, held in a block that was just made. -/
theorem beyond_blk (ns : List Nat) (b : Bool) (k g : Nat) (t : TypeId) (V : World) (h : Blk V g t (cellsI ns).toArray) (hk : ns.length = k) (hl : ns.length ≤ 1000) (hm : ∀ z ∈ ns, z ≤ 1152921504606846976) (hb : b = decide (1048576 < ns.sum)) :
    Calls Tryz.prog 11 #[.slice (some ⟨g, 0, none⟩) k k] V fun e w' => e = .returned (.bool b) ∧ Below V.heap.size V w' := by
  subst hk hb
  refine (beyond_any (some ⟨g, 0, none⟩) ns.length ns hl hm V V.heap.size ?_).mono ?_
  · refine ⟨by rw [cellsI_length, Nat.mul_one], fun _ => ⟨_, rfl, h.lt, fun j u hu => ?_⟩⟩
    rw [show (⟨g, 0, none⟩ : Addr).add j = ⟨g, j, none⟩ by unfold Addr.add; split <;> simp_all, h.cell j, ← hu]
    simp
  · rintro e w' ⟨rfl, rfl⟩
    exact ⟨rfl, Below.refl _ _⟩
/-- A list of sizes, in a block of its own. -/
structure SliceOf (ns : List Nat) (u : Value) (V : World) : Prop where
  form : ∃ g t, u = .slice (some ⟨g, 0, none⟩) ns.length ns.length ∧ Blk V g t (cellsI ns).toArray
theorem SliceOf.kept {ns : List Nat} {u : Value} {V V' : World} {B : Nat} (h : SliceOf ns u V) (k : KeptV B [] V V') : SliceOf ns u V' := by
  obtain ⟨g, t, h1, h2⟩ := h.form
  exact ⟨g, t, h1, k.blk h2 (by simp)⟩
theorem SliceOf.new (ns : List Nat) (t : TypeId) (V : World) (vs : Array Value) (h : vs = (cellsI ns).toArray) : SliceOf ns (.slice (some ⟨V.heap.size, 0, none⟩) ns.length ns.length) (V.alloc (.cells vs t)) := by
  subst h
  exact ⟨_, _, rfl, Blk.new _ _ _⟩
theorem beyond_of (ns : List Nat) (b : Bool) (hl : ns.length ≤ 1000) (hm : ∀ z ∈ ns, z ≤ 1152921504606846976) (hb : b = decide (1048576 < ns.sum)) (u : Value) (V : World) (h : SliceOf ns u V) :
    Calls Tryz.prog 11 #[u] V fun e w' => e = .returned (.bool b) ∧ Below V.heap.size V w' := by
  obtain ⟨g, t, rfl, h2⟩ := h.form
  exact beyond_blk ns b ns.length g t V h2 rfl hl hm hb
def costN (a b : Nat) : Nat := min a 1048576 * min b 1048576 / 16 * 1024
theorem costLow_N (a b : Nat) : costLow a b = ((costN a b : Nat) : Int) := by
  unfold costLow costN
  generalize min a 1048576 = p
  generalize min b 1048576 = q
  rw [Int.natCast_mul, Int.natCast_ediv, Int.natCast_mul]
  rfl
theorem costN_le (a b : Nat) : costN a b ≤ 70368744177664 := by
  have : min a 1048576 * min b 1048576 ≤ 1048576 * 1048576 := Nat.mul_le_mul (Nat.min_le_right _ _) (Nat.min_le_right _ _)
  unfold costN
  omega
end Go.Proofs.YtadmoheohmbieaaGreatDoor

/- Make of the references of chapter 02. (Written by wip/frac/genfmake.py ref.) -/
namespace Go.Proofs.YtadmoheohmbieaaGreatDoor
open Go.RowKit

def RetFrac2 (w : World) (n d k : Int) (e : Ending) (w' : World) : Prop := ∃ v, e = .returned (.tuple #[v, .int .i64 k]) ∧ FracAt w' v n d ∧ Below w.heap.size w w'
theorem FracAt.quad {w : World} {g : Nat} {v : Value} {n d : Int} (h : FracAt w v n d) {b1 b2 : Bool} {A1 A2 : Option Addr} {n1 n2 c1 c2 : Nat} (q : Quad w g (.bool b1) (.slice A1 n1 c1) (.bool b2) (.slice A2 n2 c2)) (x y z u : Value) : FracAt ((((w.setCell ⟨g, 0, none⟩ x).setCell ⟨g, 1, none⟩ y).setCell ⟨g, 2, none⟩ z).setCell ⟨g, 3, none⟩ u) v n d := by
  obtain ⟨A, k, B, e, h1, h2, h3⟩ := h.form
  exact ⟨A, k, B, e, h1, h2.quad q _ _ _ _, h3.quad q _ _ _ _⟩

set_option maxRecDepth 100000 in
set_option maxHeartbeats 1000000 in
theorem ref02_Make_good (n d : Int) (A B : Option Addr) (c e0 : Nat) (w : World) (h : Raw w A c (natL n.natAbs)) (g : Raw w B e0 (natL d.natAbs)) (hn : Fit n) (hd : Fit d) (hd0 : d ≠ 0) :
    Calls Tryz.prog 16 #[.agg #[.bool (decide (n < 0)), .slice A (natL n.natAbs).length c], .agg #[.bool (decide (d < 0)), .slice B (natL d.natAbs).length e0]] w (RetFrac2 w (lowN n d) (lowD n d) 0) := by
  have C1 := fun (V : World) (h : Raw V A c (natL n.natAbs)) => ref_Check_any (decide (n < 0)) A c _ V h
  have C2 := fun (V : World) (h : Raw V B e0 (natL d.natAbs)) => ref_Check_any (decide (d < 0)) B e0 _ V h
  unfold errI at C1 C2
  rw [if_pos hn.ok] at C1
  rw [if_pos hd.ok] at C2
  have hln : lz n ≤ 2048 := hn
  have hld : lz d ≤ 2048 := hd
  obtain ⟨s, hs⟩ : ∃ k : Int, k = d.sign := ⟨_, rfl⟩
  have C3 := fun (V : World) (h : Raw V B e0 (natL d.natAbs)) => rsign d s B e0 V h hs
  have C4 := fun (V : World) (h : Raw V A c (natL n.natAbs)) (g : Raw V B e0 (natL d.natAbs)) => lowest02 n d A B c e0 V h g (by omega) (by omega) hd0
  obtain ⟨p, hp⟩ : ∃ k : Int, k = lowN n d := ⟨_, rfl⟩
  obtain ⟨q, hq⟩ : ∃ k : Int, k = lowD n d := ⟨_, rfl⟩
  rw [← hp, ← hq] at C4 ⊢
  have H1 := Lib.hid C1
  have H2 := Lib.hid C2
  have H3 := Lib.hid C3
  have H4 := Lib.hid C4
  have hs1 : decide (s = 0) = false := decide_eq_false (by rw [hs]; intro e; exact hd0 (Int.sign_eq_zero_iff_zero.1 e))
  have hs0 : (s == 0) = false := by simpa using hs1
  clear C1 C2 C3 C4 hn hd hd0 hs hln hld hp hq
  have px := ((Pair.new w 24 (.bool (decide (n < 0))) (.slice A (natL n.natAbs).length c)).alloc (.cells #[.bool (decide (d < 0)), .slice B (natL d.natAbs).length e0] 24)).alloc (.cells #[.bool false, .slice none 0 0, .bool false, .slice none 0 0] 30)
  have py := (Pair.new (w.alloc (.cells #[.bool (decide (n < 0)), .slice A (natL n.natAbs).length c] 24)) 24 (.bool (decide (d < 0))) (.slice B (natL d.natAbs).length e0)).alloc (.cells #[.bool false, .slice none 0 0, .bool false, .slice none 0 0] 30)
  have pr := Quad.new ((w.alloc (.cells #[.bool (decide (n < 0)), .slice A (natL n.natAbs).length c] 24)).alloc (.cells #[.bool (decide (d < 0)), .slice B (natL d.natAbs).length e0] 24)) (.bool false) (.slice none 0 0) (.bool false) (.slice none 0 0)
  have b0 := (((Below.refl w.heap.size w).alloc (Nat.le_refl _) (.cells #[.bool (decide (n < 0)), .slice A (natL n.natAbs).length c] 24)).alloc (by simp) (.cells #[.bool (decide (d < 0)), .slice B (natL d.natAbs).length e0] 24)).alloc (by simp; omega) (.cells #[.bool false, .slice none 0 0, .bool false, .slice none 0 0] 30)
  simp only [World.size_alloc] at py pr
  have h1 := h.below b0
  have g1 := g.below b0
  have PX := Lib.hid px
  have PY := Lib.hid py
  have PR := Lib.hid pr
  have B0 := Lib.hid b0
  have RX := Lib.hid h1
  have RY := Lib.hid g1
  clear px py pr b0 h g h1 g1
  go_enter Tryz.func16, Tryz.ntmps16
  go_wp2_with fail
  obtain ⟨W, E⟩ : ∃ W, W = ((w.alloc (.cells #[.bool (decide (n < 0)), .slice A (natL n.natAbs).length c] 24)).alloc (.cells #[.bool (decide (d < 0)), .slice B (natL d.natAbs).length e0] 24)).alloc (.cells #[.bool false, .slice none 0 0, .bool false, .slice none 0 0] 30) := ⟨_, rfl⟩
  rw [← E] at PX PY PR B0 RX RY ⊢
  clear E
  have T0 := Below.refl W.heap.size W
  obtain ⟨l0, x0, x1, -, -⟩ := (PX.out.below T0).facts
  obtain ⟨m0, y0, y1, -, -⟩ := (PY.out.below T0).facts
  go_wp2_with fail
  refine (H1.out _ (RX.out.below T0)).mono ?_
  rintro e w1 ⟨rfl, h⟩
  have T1 := belowTo T0 h
  clear h x0 x1 y0 y1 l0 m0
  obtain ⟨l1, x0, x1, -, -⟩ := (PX.out.below T1).facts
  obtain ⟨m1, y0, y1, -, -⟩ := (PY.out.below T1).facts
  go_wp2_with fail
  refine (H2.out _ (RY.out.below T1)).mono ?_
  rintro e w2 ⟨rfl, h⟩
  have T2 := belowTo T1 h
  clear h x0 x1 y0 y1 l1 m1
  obtain ⟨l2, x0, x1, -, -⟩ := (PX.out.below T2).facts
  obtain ⟨m2, y0, y1, -, -⟩ := (PY.out.below T2).facts
  go_wp2_with fail
  refine (H3.out _ (RY.out.below T2)).mono ?_
  rintro e w3 ⟨rfl, h⟩
  have T3 := belowTo T2 h
  clear h x0 x1 y0 y1 l2 m2
  obtain ⟨l3, x0, x1, -, -⟩ := (PX.out.below T3).facts
  obtain ⟨m3, y0, y1, -, -⟩ := (PY.out.below T3).facts
  go_wp2_with fail
  refine (H4.out _ ((RX.out.below T3)) ((RY.out.below T3))).mono ?_
  rintro e w4 ⟨v, rfl, hF, h⟩
  have T4 := belowTo T3 h
  clear h x0 x1 y0 y1 l3 m3
  have HF := Lib.hid hF
  obtain ⟨A1, c1, A2, c2, rfl, -⟩ := hF.form
  clear hF
  have pr2 := PR.out.below T4
  have BB := belowTo B0.out T4
  obtain ⟨l5, z0, z1, z2, z3, f0, f1, f2, f3⟩ := pr2.facts
  go_wp2_with fail
  have hq := pr2.store (.bool (decide (p < 0))) (.slice A1 (natL p.natAbs).length c1) (.bool (decide (q < 0))) (.slice A2 (natL q.natAbs).length c2)
  obtain ⟨_, k0, k1, k2, k3, _⟩ := hq.facts
  have hs9 := B0.out.size
  exact bodyPost_ret (by simp [results, Tryz.results16, go_sem, k0, k1, k2, k3]) rfl ⟨_, rfl, HF.out.quad pr2 _ _ _ _, below4 BB (by omega) _ _ _ _⟩

set_option maxRecDepth 100000 in
set_option maxHeartbeats 1000000 in
theorem ref02_Make_nought (n d : Int) (A B : Option Addr) (c e0 : Nat) (w : World) (h : Raw w A c (natL n.natAbs)) (g : Raw w B e0 (natL d.natAbs)) (hn : Fit n) (hd : Fit d) (hd0 : d = 0) :
    Calls Tryz.prog 16 #[.agg #[.bool (decide (n < 0)), .slice A (natL n.natAbs).length c], .agg #[.bool (decide (d < 0)), .slice B (natL d.natAbs).length e0]] w (RetFrac2 w 0 0 3) := by
  have C1 := fun (V : World) (h : Raw V A c (natL n.natAbs)) => ref_Check_any (decide (n < 0)) A c _ V h
  have C2 := fun (V : World) (h : Raw V B e0 (natL d.natAbs)) => ref_Check_any (decide (d < 0)) B e0 _ V h
  unfold errI at C1 C2
  rw [if_pos hn.ok] at C1
  rw [if_pos hd.ok] at C2
  have C3 := fun (V : World) (h : Raw V B e0 (natL d.natAbs)) => rsign d 0 B e0 V h (by rw [hd0]; rfl)
  have H1 := Lib.hid C1
  have H2 := Lib.hid C2
  have H3 := Lib.hid C3
  clear C1 C2 C3 hn hd hd0
  have px := ((Pair.new w 24 (.bool (decide (n < 0))) (.slice A (natL n.natAbs).length c)).alloc (.cells #[.bool (decide (d < 0)), .slice B (natL d.natAbs).length e0] 24)).alloc (.cells #[.bool false, .slice none 0 0, .bool false, .slice none 0 0] 30)
  have py := (Pair.new (w.alloc (.cells #[.bool (decide (n < 0)), .slice A (natL n.natAbs).length c] 24)) 24 (.bool (decide (d < 0))) (.slice B (natL d.natAbs).length e0)).alloc (.cells #[.bool false, .slice none 0 0, .bool false, .slice none 0 0] 30)
  have pr := Quad.new ((w.alloc (.cells #[.bool (decide (n < 0)), .slice A (natL n.natAbs).length c] 24)).alloc (.cells #[.bool (decide (d < 0)), .slice B (natL d.natAbs).length e0] 24)) (.bool false) (.slice none 0 0) (.bool false) (.slice none 0 0)
  have b0 := (((Below.refl w.heap.size w).alloc (Nat.le_refl _) (.cells #[.bool (decide (n < 0)), .slice A (natL n.natAbs).length c] 24)).alloc (by simp) (.cells #[.bool (decide (d < 0)), .slice B (natL d.natAbs).length e0] 24)).alloc (by simp; omega) (.cells #[.bool false, .slice none 0 0, .bool false, .slice none 0 0] 30)
  simp only [World.size_alloc] at py pr
  have h1 := h.below b0
  have g1 := g.below b0
  have PX := Lib.hid px
  have PY := Lib.hid py
  have PR := Lib.hid pr
  have B0 := Lib.hid b0
  have RX := Lib.hid h1
  have RY := Lib.hid g1
  clear px py pr b0 h g h1 g1
  go_enter Tryz.func16, Tryz.ntmps16
  go_wp2_with fail
  obtain ⟨W, E⟩ : ∃ W, W = ((w.alloc (.cells #[.bool (decide (n < 0)), .slice A (natL n.natAbs).length c] 24)).alloc (.cells #[.bool (decide (d < 0)), .slice B (natL d.natAbs).length e0] 24)).alloc (.cells #[.bool false, .slice none 0 0, .bool false, .slice none 0 0] 30) := ⟨_, rfl⟩
  rw [← E] at PX PY PR B0 RX RY ⊢
  clear E
  have T0 := Below.refl W.heap.size W
  obtain ⟨l0, x0, x1, -, -⟩ := (PX.out.below T0).facts
  obtain ⟨m0, y0, y1, -, -⟩ := (PY.out.below T0).facts
  go_wp2_with fail
  refine (H1.out _ (RX.out.below T0)).mono ?_
  rintro e w1 ⟨rfl, h⟩
  have T1 := belowTo T0 h
  clear h x0 x1 y0 y1 l0 m0
  obtain ⟨l1, x0, x1, -, -⟩ := (PX.out.below T1).facts
  obtain ⟨m1, y0, y1, -, -⟩ := (PY.out.below T1).facts
  go_wp2_with fail
  refine (H2.out _ (RY.out.below T1)).mono ?_
  rintro e w2 ⟨rfl, h⟩
  have T2 := belowTo T1 h
  clear h x0 x1 y0 y1 l1 m1
  obtain ⟨l2, x0, x1, -, -⟩ := (PX.out.below T2).facts
  obtain ⟨m2, y0, y1, -, -⟩ := (PY.out.below T2).facts
  go_wp2_with fail
  refine (H3.out _ (RY.out.below T2)).mono ?_
  rintro e w3 ⟨rfl, h⟩
  have T3 := belowTo T2 h
  clear h x0 x1 y0 y1 l2 m2
  have pr2 := PR.out.below T3
  have BB := belowTo B0.out T3
  have BX := B0.out.size
  obtain ⟨l5, z0, z1, z2, z3, f0, f1, f2, f3⟩ := pr2.facts
  go_wp2_with fail
  have hq := pr2.store (.bool false) (.slice none 0 0) (.bool false) (.slice none 0 0)
  obtain ⟨_, k0, k1, k2, k3, _⟩ := hq.facts
  exact bodyPost_ret (by simp [results, Tryz.results16, go_sem, k0, k1, k2, k3]) rfl ⟨_, rfl, (FracOwn.nought _ 0).at_, below4 BB (by omega) _ _ _ _⟩

set_option maxRecDepth 100000 in
set_option maxHeartbeats 1000000 in
theorem ref02_Make_bad_one (n1 n2 : Bool) (A B : Option Addr) (c e0 : Nat) (xs ys : List Nat) (o : okI n1 xs = false) (w : World) (h : Raw w A c xs) (g : Raw w B e0 ys) :
    Calls Tryz.prog 16 #[.agg #[.bool n1, .slice A xs.length c], .agg #[.bool n2, .slice B ys.length e0]] w (RetFrac2 w 0 0 1) := by
  have C1 := fun (V : World) (h : Raw V A c xs) => ref_Check_any n1 A c _ V h
  unfold errI at C1
  rw [if_neg (by rw [o]; decide)] at C1
  have H1 := Lib.hid C1
  clear C1 o
  have px := ((Pair.new w 24 (.bool n1) (.slice A xs.length c)).alloc (.cells #[.bool n2, .slice B ys.length e0] 24)).alloc (.cells #[.bool false, .slice none 0 0, .bool false, .slice none 0 0] 30)
  have py := (Pair.new (w.alloc (.cells #[.bool n1, .slice A xs.length c] 24)) 24 (.bool n2) (.slice B ys.length e0)).alloc (.cells #[.bool false, .slice none 0 0, .bool false, .slice none 0 0] 30)
  have pr := Quad.new ((w.alloc (.cells #[.bool n1, .slice A xs.length c] 24)).alloc (.cells #[.bool n2, .slice B ys.length e0] 24)) (.bool false) (.slice none 0 0) (.bool false) (.slice none 0 0)
  have b0 := (((Below.refl w.heap.size w).alloc (Nat.le_refl _) (.cells #[.bool n1, .slice A xs.length c] 24)).alloc (by simp) (.cells #[.bool n2, .slice B ys.length e0] 24)).alloc (by simp; omega) (.cells #[.bool false, .slice none 0 0, .bool false, .slice none 0 0] 30)
  simp only [World.size_alloc] at py pr
  have h1 := h.below b0
  have g1 := g.below b0
  have PX := Lib.hid px
  have PY := Lib.hid py
  have PR := Lib.hid pr
  have B0 := Lib.hid b0
  have RX := Lib.hid h1
  have RY := Lib.hid g1
  clear px py pr b0 h g h1 g1
  go_enter Tryz.func16, Tryz.ntmps16
  go_wp2_with fail
  obtain ⟨W, E⟩ : ∃ W, W = ((w.alloc (.cells #[.bool n1, .slice A xs.length c] 24)).alloc (.cells #[.bool n2, .slice B ys.length e0] 24)).alloc (.cells #[.bool false, .slice none 0 0, .bool false, .slice none 0 0] 30) := ⟨_, rfl⟩
  rw [← E] at PX PY PR B0 RX RY ⊢
  clear E
  have T0 := Below.refl W.heap.size W
  obtain ⟨l0, x0, x1, -, -⟩ := (PX.out.below T0).facts
  obtain ⟨m0, y0, y1, -, -⟩ := (PY.out.below T0).facts
  go_wp2_with fail
  refine (H1.out _ (RX.out.below T0)).mono ?_
  rintro e w1 ⟨rfl, h⟩
  have T1 := belowTo T0 h
  clear h x0 x1 y0 y1 l0 m0
  have pr2 := PR.out.below T1
  have BB := belowTo B0.out T1
  have BX := B0.out.size
  obtain ⟨l5, z0, z1, z2, z3, f0, f1, f2, f3⟩ := pr2.facts
  go_wp2_with fail
  have hq := pr2.store (.bool false) (.slice none 0 0) (.bool false) (.slice none 0 0)
  obtain ⟨_, k0, k1, k2, k3, _⟩ := hq.facts
  exact bodyPost_ret (by simp [results, Tryz.results16, go_sem, k0, k1, k2, k3]) rfl ⟨_, rfl, (FracOwn.nought _ 0).at_, below4 BB (by omega) _ _ _ _⟩

set_option maxRecDepth 100000 in
set_option maxHeartbeats 1000000 in
theorem ref02_Make_bad_two (n1 n2 : Bool) (A B : Option Addr) (c e0 : Nat) (xs ys : List Nat) (o1 : okI n1 xs = true) (o : okI n2 ys = false) (w : World) (h : Raw w A c xs) (g : Raw w B e0 ys) :
    Calls Tryz.prog 16 #[.agg #[.bool n1, .slice A xs.length c], .agg #[.bool n2, .slice B ys.length e0]] w (RetFrac2 w 0 0 1) := by
  have C1 := fun (V : World) (h : Raw V A c xs) => ref_Check_any n1 A c _ V h
  unfold errI at C1
  rw [if_pos o1] at C1
  have H1 := Lib.hid C1
  have C2 := fun (V : World) (h : Raw V B e0 ys) => ref_Check_any n2 B e0 _ V h
  unfold errI at C2
  rw [if_neg (by rw [o]; decide)] at C2
  have H2 := Lib.hid C2
  clear C2 o1
  clear C1 o
  have px := ((Pair.new w 24 (.bool n1) (.slice A xs.length c)).alloc (.cells #[.bool n2, .slice B ys.length e0] 24)).alloc (.cells #[.bool false, .slice none 0 0, .bool false, .slice none 0 0] 30)
  have py := (Pair.new (w.alloc (.cells #[.bool n1, .slice A xs.length c] 24)) 24 (.bool n2) (.slice B ys.length e0)).alloc (.cells #[.bool false, .slice none 0 0, .bool false, .slice none 0 0] 30)
  have pr := Quad.new ((w.alloc (.cells #[.bool n1, .slice A xs.length c] 24)).alloc (.cells #[.bool n2, .slice B ys.length e0] 24)) (.bool false) (.slice none 0 0) (.bool false) (.slice none 0 0)
  have b0 := (((Below.refl w.heap.size w).alloc (Nat.le_refl _) (.cells #[.bool n1, .slice A xs.length c] 24)).alloc (by simp) (.cells #[.bool n2, .slice B ys.length e0] 24)).alloc (by simp; omega) (.cells #[.bool false, .slice none 0 0, .bool false, .slice none 0 0] 30)
  simp only [World.size_alloc] at py pr
  have h1 := h.below b0
  have g1 := g.below b0
  have PX := Lib.hid px
  have PY := Lib.hid py
  have PR := Lib.hid pr
  have B0 := Lib.hid b0
  have RX := Lib.hid h1
  have RY := Lib.hid g1
  clear px py pr b0 h g h1 g1
  go_enter Tryz.func16, Tryz.ntmps16
  go_wp2_with fail
  obtain ⟨W, E⟩ : ∃ W, W = ((w.alloc (.cells #[.bool n1, .slice A xs.length c] 24)).alloc (.cells #[.bool n2, .slice B ys.length e0] 24)).alloc (.cells #[.bool false, .slice none 0 0, .bool false, .slice none 0 0] 30) := ⟨_, rfl⟩
  rw [← E] at PX PY PR B0 RX RY ⊢
  clear E
  have T0 := Below.refl W.heap.size W
  obtain ⟨l0, x0, x1, -, -⟩ := (PX.out.below T0).facts
  obtain ⟨m0, y0, y1, -, -⟩ := (PY.out.below T0).facts
  go_wp2_with fail
  refine (H1.out _ (RX.out.below T0)).mono ?_
  rintro e w1 ⟨rfl, h⟩
  have T1 := belowTo T0 h
  clear h x0 x1 y0 y1 l0 m0
  obtain ⟨l1, x0, x1, -, -⟩ := (PX.out.below T1).facts
  obtain ⟨m1, y0, y1, -, -⟩ := (PY.out.below T1).facts
  go_wp2_with fail
  refine (H2.out _ (RY.out.below T1)).mono ?_
  rintro e w2 ⟨rfl, h⟩
  have T2 := belowTo T1 h
  clear h x0 x1 y0 y1 l1 m1
  have pr2 := PR.out.below T2
  have BB := belowTo B0.out T2
  have BX := B0.out.size
  obtain ⟨l5, z0, z1, z2, z3, f0, f1, f2, f3⟩ := pr2.facts
  go_wp2_with fail
  have hq := pr2.store (.bool false) (.slice none 0 0) (.bool false) (.slice none 0 0)
  obtain ⟨_, k0, k1, k2, k3, _⟩ := hq.facts
  exact bodyPost_ret (by simp [results, Tryz.results16, go_sem, k0, k1, k2, k3]) rfl ⟨_, rfl, (FracOwn.nought _ 0).at_, below4 BB (by omega) _ _ _ _⟩

theorem ref02_Make (n1 n2 : Bool) (A B : Option Addr) (c e0 : Nat) (xs ys : List Nat) (w : World) (h : Raw w A c xs) (g : Raw w B e0 ys) :
    Calls Tryz.prog 16 #[.agg #[.bool n1, .slice A xs.length c], .agg #[.bool n2, .slice B ys.length e0]] w (RetFrac2 w (mkN n1 n2 xs ys) (mkD n1 n2 xs ys) (mkE n1 n2 xs ys)) := by
  unfold mkN mkD mkE mkOk
  cases o1 : okI n1 xs with
  | false => exact ref02_Make_bad_one n1 n2 A B c e0 xs ys o1 w h g
  | true =>
    cases o2 : okI n2 ys with
    | false => exact ref02_Make_bad_two n1 n2 A B c e0 xs ys o1 o2 w h g
    | true =>
      obtain ⟨a1, a2, a3⟩ := ok_num h.limbs o1
      obtain ⟨b1, b2, b3⟩ := ok_num g.limbs o2
      generalize ival n1 xs = x at a1 a2 a3 ⊢
      generalize ival n2 ys = y at b1 b2 b3 ⊢
      subst a1 a2 b1 b2
      by_cases hy : y = 0
      · simp only [Bool.and_self, if_true, if_pos hy]
        exact ref02_Make_nought x y A B c e0 w h g a3 b3 hy
      · simp only [Bool.and_self, if_true, if_neg hy]
        exact ref02_Make_good x y A B c e0 w h g a3 b3 hy
end Go.Proofs.YtadmoheohmbieaaGreatDoor

/- Checks of package ratio: may all fractions of a list be? -/
namespace Go.Proofs.YtadmoheohmbieaaGreatDoor
open Go.RowKit

/-- A fraction as it lies in a list. -/
structure FLoc where
  n1 : Bool
  A : Option Addr
  n : Nat
  c : Nat
  n2 : Bool
  B : Option Addr
  m : Nat
  e : Nat
def FLoc.val (q : FLoc) : Value := .agg #[.bool q.n1, .slice q.A q.n q.c, .bool q.n2, .slice q.B q.m q.e]
def FLoc.cells (q : FLoc) : List Value := [.bool q.n1, .slice q.A q.n q.c, .bool q.n2, .slice q.B q.m q.e]
def cellsF (l : List FLoc) : List Value := l.flatMap FLoc.cells
theorem cellsF_get : ∀ (l : List FLoc) (k : Nat) (hk : k < l.length), (cellsF l)[k * 4]? = some (.bool l[k].n1) ∧ (cellsF l)[k * 4 + 1]? = some (.slice l[k].A l[k].n l[k].c) ∧ (cellsF l)[k * 4 + 2]? = some (.bool l[k].n2) ∧ (cellsF l)[k * 4 + 3]? = some (.slice l[k].B l[k].m l[k].e)
  | [], k, hk => by simp at hk
  | q :: l, 0, _ => by simp [cellsF, FLoc.cells]
  | q :: l, k + 1, hk => by
    have ih := cellsF_get l k (by simpa using hk)
    simp only [cellsF, List.flatMap_cons, FLoc.cells, show (k + 1) * 4 = k * 4 + 4 by omega]
    simpa [cellsF, FLoc.cells] using ih

set_option maxRecDepth 100000 in
set_option maxHeartbeats 1000000 in
theorem ratio_Checks (l : List FLoc) (ks : FLoc → Bool) (A : Option Addr) (c : Nat) (hl : l.length ≤ 9223372036854775807) (w : World) (h : Reads w w.heap.size 4 A l.length (cellsF l))
    (H : ∀ q ∈ l, ∀ V, Below w.heap.size w V → Calls Tryz.prog 68 #[q.val] V fun e w' => e = .returned (.int .i64 (if ks q then 0 else 1)) ∧ Below V.heap.size V w') :
    Calls Tryz.prog 128 #[.slice A l.length c] w fun e w' => e = .returned (.bool (l.all ks)) ∧ Below w.heap.size w w' := by
  have HR := Lib.hid h
  have HS := Lib.hid H
  clear h H
  have H0 := Lib.hid (by intro j hj; omega : ∀ j (_ : j < 0), (h : j < l.length) → ks l[j] = true)
  go_enter Tryz.func128, Tryz.ntmps128
  go_wp2_with fail
  go_loopw [7] (fun s wr => ∃ i : Nat, s = .int .i64 i ∧ i ≤ l.length ∧ Hid (∀ j (_ : j < i), (h : j < l.length) → ks l[j] = true) ∧ Below w.heap.size w wr) (fun s _ => l.length - (intOf s).toNat)
  case atStart => exact ⟨0, rfl, Nat.zero_le _, H0, Below.refl _ _⟩
  case round =>
    obtain ⟨i, rfl, hi, HN, hb⟩ := hrel
    clear H0
    by_cases hlt : i < l.length
    · have a0 : (0 : Int) ≤ (i : Int) := by omega
      have a1 : (i : Int) < (l.length : Int) := by omega
      obtain ⟨e0, e1, e2, e3⟩ := cellsF_get l i hlt
      obtain ⟨ad, rfl, hbl, c0, c1, c2, c3⟩ := (HR.out.below hb).row4 hlt e0 e1 e2 e3
      have C := HS.out _ (List.getElem_mem hlt)
      unfold FLoc.val at C
      have HB := Lib.hid hb
      clear e0 e1 e2 e3 hbl hb
      by_cases hlong : ks l[i] = true
      · rw [if_pos hlong] at C
        have C := Lib.hid C
        have HL := Lib.hid hlong
        clear hlong
        go_wp2_with (first | (go_at_call 68; with_reducible refine (C.out _ (HB.out.alloc HB.out.size _)).mono ?_; rintro e w' ⟨rfl, hb'⟩; have B1 := belowTo (HB.out.alloc HB.out.size _) hb'))
        go_roundw
        case rel =>
          refine ⟨i + 1, by go_num, hlt, Lib.hid fun j hj h => ?_, B1⟩
          rcases (by omega : j < i ∨ j = i) with hj | rfl
          · exact HN.out j hj h
          · exact HL.out
        case measure => simp [intOf]; omega
      · rw [if_neg hlong] at C
        have C := Lib.hid C
        have HL := Lib.hid hlong
        clear hlong
        go_wp2_with (first | (go_at_call 68; with_reducible refine (C.out _ (HB.out.alloc HB.out.size _)).mono ?_; rintro e w' ⟨rfl, hb'⟩; have B1 := belowTo (HB.out.alloc HB.out.size _) hb'))
        go_ret
        have e : l.all ks = false := List.all_eq_false.2 ⟨l[i], List.getElem_mem hlt, HL.out⟩
        exact ⟨by rw [e]; rfl, B1⟩
    · have HB := Lib.hid hb
      clear hb
      go_wp2_with fail
      go_ret
      have e : l.all ks = true := List.all_eq_true.2 fun x hx => by
        obtain ⟨j, hj, rfl⟩ := List.getElem_of_mem hx
        exact HN.out j (by omega) hj
      exact ⟨by rw [e]; rfl, HB.out⟩

theorem chkE_bool (n1 n2 : Bool) (xs ys : List Nat) : chkE n1 n2 xs ys = if (chkE n1 n2 xs ys == 0) = true then 0 else 1 := by
  unfold chkE
  split <;> (try split) <;> simp_all
/-- Checks of a list of one that was just made. -/
theorem checks_new (n1 n2 : Bool) (A B : Option Addr) (c e0 : Nat) (xs ys : List Nat) (V : World) (g' : Nat) (h : Raw V A c xs) (g : Raw V B e0 ys) (hg : V.heap.size = g') :
    Calls Tryz.prog 128 #[.slice (some ⟨g', 0, none⟩) 1 1] (V.alloc (.cells #[.bool n1, .slice A xs.length c, .bool n2, .slice B ys.length e0] 30)) fun e w' => e = .returned (.bool (chkE n1 n2 xs ys == 0)) ∧ Below (V.alloc (.cells #[.bool n1, .slice A xs.length c, .bool n2, .slice B ys.length e0] 30)).heap.size (V.alloc (.cells #[.bool n1, .slice A xs.length c, .bool n2, .slice B ys.length e0] 30)) w' := by
  have := ratio_Checks [⟨n1, A, xs.length, c, n2, B, ys.length, e0⟩] (fun _ => chkE n1 n2 xs ys == 0) (some ⟨g', 0, none⟩) 1 (by simp) (V.alloc (.cells #[.bool n1, .slice A xs.length c, .bool n2, .slice B ys.length e0] 30))
    (by subst hg; exact (Reads.new1 V 30 4 [.bool n1, .slice A xs.length c, .bool n2, .slice B ys.length e0] rfl).more (by simp))
    (by
      intro q hq W hW
      obtain rfl : q = ⟨n1, A, xs.length, c, n2, B, ys.length, e0⟩ := by simpa using hq
      rw [← chkE_bool]
      exact ratio_Check n1 n2 A B c e0 xs ys W ((h.alloc _).below hW) ((g.alloc _).below hW))
  simpa using this
end Go.Proofs.YtadmoheohmbieaaGreatDoor
