/- Several texts in one: FCost, FVar, FChecks, FLaw. -/
import Derived.Test.YtkncbenhfcpgkaaGreatDoorPu28
import Derived.Test.YtkncbenhfcpgkaaGreatDoorPuHd
import Derived.Test.YtkncbenhfcpgkaaGreatDoorPu20
import Derived.Test.YtkncbenhfcpgkaaGreatDoorPu25
import Derived.Test.YtkncbenhfcpgkaaGreatDoorPu16
import Derived.Test.YtkncbenhfcpgkaaGreatDoorPu24
import Derived.Test.YtkncbenhfcpgkaaGreatDoorPu19
import Derived.Test.YtkncbenhfcpgkaaGreatDoorPu04
import Derived.Test.YtkncbenhfcpgkaaGreatDoorPu07
import Derived.Test.YtkncbenhfcpgkaaGreatDoorPu22
import Derived.Test.YtkncbenhfcpgkaaGreatDoorPu02
import Derived.Test.YtkncbenhfcpgkaaGreatDoorPu01
import Derived.Test.YtkncbenhfcpgkaaGreatDoorPu06
import Derived.Test.YtkncbenhfcpgkaaGreatDoorPu03
import Derived.Test.YtkncbenhfcpgkaaGreatDoorPu05
import Derived.Test.YtkncbenhfcpgkaaGreatDoorPu08
import Derived.Test.YtkncbenhfcpgkaaGreatDoorPu15
import Derived.Test.YtkncbenhfcpgkaaGreatDoorPu23
import Derived.Test.YtkncbenhfcpgkaaGreatDoorPu14
import Derived.Test.YtkncbenhfcpgkaaGreatDoorPu11
import Derived.Test.YtkncbenhfcpgkaaGreatDoorPu13
import Derived.Test.YtkncbenhfcpgkaaGreatDoorPu12
import Derived.Test.YtkncbenhfcpgkaaGreatDoorPu27
import Derived.Test.YtkncbenhfcpgkaaGreatDoorPu18
import Derived.Test.YtkncbenhfcpgkaaGreatDoorPu17
import Derived.Test.YtkncbenhfcpgkaaGreatDoorPu09
import Derived.Test.YtkncbenhfcpgkaaGreatDoorPu26
import Derived.Test.YtkncbenhfcpgkaaGreatDoorPu29
import Derived.Test.YtkncbenhfcpgkaaGreatDoorPu10
set_option maxRecDepth 100000
set_option maxHeartbeats 8000000
/- What lowest terms may cost. -/
namespace Go.Proofs.YtkncbenhfcpgkaaGreatDoor
open Go.RowKit

def costLow (a b : Nat) : Int := ((min a 1048576 : Nat) : Int) * ((min b 1048576 : Nat) : Int) / 16 * 1024
theorem cost_low (n1 n2 : Bool) (A B : Option Addr) (c e0 : Nat) (xs ys : List Nat) (w : World) (h : Raw w A c xs) (g : Raw w B e0 ys) :
    Calls Tryz.prog 91 #[.agg #[.bool n1, .slice A xs.length c], .agg #[.bool n2, .slice B ys.length e0]] w fun e w' => e = .returned (.int .i64 (costLow xs.length ys.length)) ∧ Below w.heap.size w w' := by
  have h1 := h.cap
  have h2 := h.most
  have g1 := g.cap
  have g2 := g.most
  generalize xs.length = a at h1 ⊢
  generalize ys.length = b at g1 ⊢
  clear h g
  have ha : (a : Int) ≤ 9223372036854775807 := by omega
  have hb : (b : Int) ≤ 9223372036854775807 := by omega
  clear h1 h2 g1 g2
  have b0 := Hd (((Below.refl w.heap.size w).alloc (Nat.le_refl _) (.cells #[.bool n1, .slice A a c] 24)).alloc (by simp) (.cells #[.bool n2, .slice B b e0] 24))
  go_enter Tryz.func91, Tryz.ntmps91
  go_wp2_with fail
  go_ret
  refine ⟨?_, b0.out⟩
  obtain ⟨p, hp⟩ : ∃ p : Int, p = min (a : Int) 1048576 := ⟨_, rfl⟩
  obtain ⟨q, hq⟩ : ∃ q : Int, q = min (b : Int) 1048576 := ⟨_, rfl⟩
  have p0 : 0 ≤ p ∧ p ≤ 1048576 := by omega
  have q0 : 0 ≤ q ∧ q ≤ 1048576 := by omega
  have e : costLow a b = p * q / 16 * 1024 := by
    unfold costLow
    rw [show ((min a 1048576 : Nat) : Int) = p by omega, show ((min b 1048576 : Nat) : Int) = q by omega]
  rw [e, ← hp, ← hq]
  have m0 : 0 ≤ p * q := Int.mul_nonneg p0.1 q0.1
  have m1 : p * q ≤ 1048576 * 1048576 := Int.mul_le_mul p0.2 q0.2 q0.1 (by decide)
  generalize p * q = z at m0 m1 ⊢
  have w1 : wrap64 z = z := by unfold wrap64; omega
  have w2 : wrap64 (z.tdiv 16) = z / 16 := by
    rw [Int.tdiv_eq_ediv_of_nonneg m0]
    unfold wrap64; omega
  have w3 : wrap64 (z / 16 * 1024) = z / 16 * 1024 := by unfold wrap64; omega
  rw [w1, w2, w3]
  rfl
/- Variables of fractions in the laws' walks; what a law may cost; rows of a Book. -/

structure FVar (w : World) (g : Nat) (n d : Int) (A : Option Addr) (c : Nat) (B : Option Addr) (e lo hi : Nat) : Prop where
  quad : Quad w g (.bool (decide (n < 0))) (.slice A (natL n.natAbs).length c) (.bool (decide (d < 0))) (.slice B (natL d.natAbs).length e)
  own : FracOwn w lo (.agg #[.bool (decide (n < 0)), .slice A (natL n.natAbs).length c, .bool (decide (d < 0)), .slice B (natL d.natAbs).length e]) n d
  top1 : ∀ x, (Value.slice A (natL n.natAbs).length c).ownBlock = some x → x < hi
  top2 : ∀ x, (Value.slice B (natL d.natAbs).length e).ownBlock = some x → x < hi
theorem FracOwn.below {w w' : World} {lo : Nat} {v : Value} {n d : Int} (h : FracOwn w lo v n d) (hb : Below w.heap.size w w') : FracOwn w' lo v n d := by
  obtain ⟨A, c, B, e, h1, h2, h3, h4⟩ := h.form
  exact ⟨A, c, B, e, h1, h2.below hb, h3.below hb, h4⟩
theorem FVar.below {w w' : World} {g c e lo hi : Nat} {n d : Int} {A B : Option Addr} (h : FVar w g n d A c B e lo hi) (hb : Below w.heap.size w w') : FVar w' g n d A c B e lo hi := ⟨h.quad.below hb, h.own.below hb, h.top1, h.top2⟩
theorem FracOwn.rows {w : World} {lo c e : Nat} {n d : Int} {A B : Option Addr} (h : FracOwn w lo (.agg #[.bool (decide (n < 0)), .slice A (natL n.natAbs).length c, .bool (decide (d < 0)), .slice B (natL d.natAbs).length e]) n d) :
    (∃ X, w.ownsRow lo tLimb 1 (.slice A (natL n.natAbs).length c) (natL n.natAbs).length X) ∧ (∃ X, w.ownsRow lo tLimb 1 (.slice B (natL d.natAbs).length e) (natL d.natAbs).length X) ∧
    ∀ g, (Value.slice A (natL n.natAbs).length c).ownBlock = some g → (Value.slice B (natL d.natAbs).length e).ownBlock ≠ some g := by
  obtain ⟨A', c', B', e', h1, h2, h3, h4⟩ := h.form
  simp only [Value.agg.injEq, Array.mk.injEq, List.cons.injEq, Value.slice.injEq, and_true, true_and] at h1
  obtain ⟨⟨rfl, rfl⟩, rfl, rfl⟩ := h1
  obtain ⟨A1, c1, p1, p2, p3, p4⟩ := h2.form
  obtain ⟨A2, c2, q1, q2, q3, q4⟩ := h3.form
  simp only [Value.agg.injEq, Array.mk.injEq, List.cons.injEq, Value.slice.injEq, and_true, true_and] at p1 q1
  obtain ⟨rfl, rfl⟩ := p1
  obtain ⟨rfl, rfl⟩ := q1
  exact ⟨⟨_, p4⟩, ⟨_, q4⟩, h4⟩
theorem FVar.new {w : World} {c e lo : Nat} {n d : Int} {A B : Option Addr} (h : FracOwn w lo (.agg #[.bool (decide (n < 0)), .slice A (natL n.natAbs).length c, .bool (decide (d < 0)), .slice B (natL d.natAbs).length e]) n d) :
    FVar (w.alloc (.cells #[.bool (decide (n < 0)), .slice A (natL n.natAbs).length c, .bool (decide (d < 0)), .slice B (natL d.natAbs).length e] 56)) w.heap.size n d A c B e lo w.heap.size := by
  obtain ⟨⟨X, r1⟩, ⟨Y, r2⟩, -⟩ := h.rows
  exact ⟨Quad.new w _ _ _ _, h.below ((Below.refl _ _).alloc (Nat.le_refl _) _), fun x hx => (r1.lt x hx).2, fun x hx => (r2.lt x hx).2⟩
theorem FVar.at_ {w : World} {g c e lo hi : Nat} {n d : Int} {A B : Option Addr} (h : FVar w g n d A c B e lo hi) : FracAt w (.agg #[.bool (decide (n < 0)), .slice A (natL n.natAbs).length c, .bool (decide (d < 0)), .slice B (natL d.natAbs).length e]) n d := h.own.at_
theorem FV.at_ {w : World} {g c e : Nat} {n d : Int} {A B : Option Addr} (h : FV w g n d A c B e) : FracAt w (.agg #[.bool (decide (n < 0)), .slice A (natL n.natAbs).length c, .bool (decide (d < 0)), .slice B (natL d.natAbs).length e]) n d := ⟨_, _, _, _, rfl, h.num, h.den⟩
theorem FV.new {w : World} {c e : Nat} {n d : Int} {A B : Option Addr} (h : Raw w A c (natL n.natAbs)) (g : Raw w B e (natL d.natAbs)) :
    FV (w.alloc (.cells #[.bool (decide (n < 0)), .slice A (natL n.natAbs).length c, .bool (decide (d < 0)), .slice B (natL d.natAbs).length e] 56)) w.heap.size n d A c B e := ⟨Quad.new w _ _ _ _, h.alloc _, g.alloc _⟩
theorem RowsIn.frac {w : World} {lo0 lo hi g c e : Nat} {n d : Int} {A B : Option Addr} {vs : List Value} (h : RowsIn w lo0 vs lo) (v : FVar w g n d A c B e lo hi) (hn : lz n ≤ 1073741824) (hd : lz d ≤ 1073741824) (hh : lo ≤ hi) :
    RowsIn w lo0 (vs ++ [.slice A (natL n.natAbs).length c, .slice B (natL d.natAbs).length e]) hi := by
  obtain ⟨⟨X, r1⟩, ⟨Y, r2⟩, h4⟩ := v.own.rows
  exact h.snoc2 hn hd r1 r2 v.top1 v.top2 hh h4
structure SliceOf (ns : List Nat) (u : Value) (V : World) : Prop where
  form : ∃ g t, u = .slice (some ⟨g, 0, none⟩) ns.length ns.length ∧ Blk V g t (cellsI ns).toArray
theorem SliceOf.kept {ns : List Nat} {u : Value} {V V' : World} {B : Nat} (h : SliceOf ns u V) (k : KeptV B [] V V') : SliceOf ns u V' := by
  obtain ⟨g, t, h1, h2⟩ := h.form
  exact ⟨g, t, h1, k.blk h2 (by simp)⟩
theorem SliceOf.new (ns : List Nat) (t : TypeId) (V : World) (vs : Array Value) (h : vs = (cellsI ns).toArray) : SliceOf ns (.slice (some ⟨V.heap.size, 0, none⟩) ns.length ns.length) (V.alloc (.cells vs t)) := by
  subst h
  exact ⟨_, _, rfl, Blk.new _ _ _⟩
def costN (a b : Nat) : Nat := min a 1048576 * min b 1048576 / 16 * 1024
theorem costLow_N (a b : Nat) : costLow a b = ((costN a b : Nat) : Int) := by
  unfold costLow costN
  generalize min a 1048576 = p
  generalize min b 1048576 = q
  rw [Int.natCast_mul, Int.natCast_ediv, Int.natCast_mul]
  rfl
theorem costN_le (a b : Nat) : costN a b ≤ 70368744177664 := by
  have : min a 1048576 * min b 1048576 ≤ 1048576 * 1048576 := Nat.mul_le_mul (Nat.min_le_right _ _) (Nat.min_le_right _ _)
  unfold costN
  omega
/- Checks of package ratio: may all fractions of a list be? -/

structure FLoc where
  n1 : Bool
  A : Option Addr
  n : Nat
  c : Nat
  n2 : Bool
  B : Option Addr
  m : Nat
  e : Nat
def FLoc.val (q : FLoc) : Value := .agg #[.bool q.n1, .slice q.A q.n q.c, .bool q.n2, .slice q.B q.m q.e]
def FLoc.cells (q : FLoc) : List Value := [.bool q.n1, .slice q.A q.n q.c, .bool q.n2, .slice q.B q.m q.e]
def cellsF (l : List FLoc) : List Value := l.flatMap FLoc.cells
theorem cellsF_get : ∀ (l : List FLoc) (k : Nat) (hk : k < l.length), (cellsF l)[k * 4]? = some (.bool l[k].n1) ∧ (cellsF l)[k * 4 + 1]? = some (.slice l[k].A l[k].n l[k].c) ∧ (cellsF l)[k * 4 + 2]? = some (.bool l[k].n2) ∧ (cellsF l)[k * 4 + 3]? = some (.slice l[k].B l[k].m l[k].e)
  | [], k, hk => by simp at hk
  | q :: l, 0, _ => by simp [cellsF, FLoc.cells]
  | q :: l, k + 1, hk => by
    have ih := cellsF_get l k (by simpa using hk)
    simp only [cellsF, List.flatMap_cons, FLoc.cells, show (k + 1) * 4 = k * 4 + 4 by omega]
    simpa [cellsF, FLoc.cells] using ih

theorem ratio_Checks (l : List FLoc) (ks : FLoc → Bool) (A : Option Addr) (c : Nat) (hl : l.length ≤ 9223372036854775807) (w : World) (h : Reads w w.heap.size 4 A l.length (cellsF l))
    (H : ∀ q ∈ l, ∀ V, Below w.heap.size w V → Calls Tryz.prog 161 #[q.val] V fun e w' => e = .returned (.int .i64 (if ks q then 0 else 1)) ∧ Below V.heap.size V w') :
    Calls Tryz.prog 92 #[.slice A l.length c] w fun e w' => e = .returned (.bool (l.all ks)) ∧ Below w.heap.size w w' := by
  have HR := Hd h
  have HS := Hd H
  clear h H
  have H0 := Hd (by intro j hj; omega : ∀ j (_ : j < 0), (h : j < l.length) → ks l[j] = true)
  go_enter Tryz.func92, Tryz.ntmps92
  go_wp2_with fail
  go_loopw [7] (fun s wr => ∃ i : Nat, s = .int .i64 i ∧ i ≤ l.length ∧ Hid (∀ j (_ : j < i), (h : j < l.length) → ks l[j] = true) ∧ Below w.heap.size w wr) (fun s _ => l.length - (intOf s).toNat)
  case atStart => exact ⟨0, rfl, Nat.zero_le _, H0, Below.refl _ _⟩
  case round =>
    obtain ⟨i, rfl, hi, HN, hb⟩ := hrel
    clear H0
    by_cases hlt : i < l.length
    · have a0 : (0 : Int) ≤ (i : Int) := by omega
      have a1 : (i : Int) < (l.length : Int) := by omega
      obtain ⟨e0, e1, e2, e3⟩ := cellsF_get l i hlt
      obtain ⟨ad, rfl, hbl, c0, c1, c2, c3⟩ := (HR.out.below hb).row4 hlt e0 e1 e2 e3
      have C := HS.out _ (List.getElem_mem hlt)
      unfold FLoc.val at C
      have HB := Hd hb
      clear e0 e1 e2 e3 hbl hb
      by_cases hlong : ks l[i] = true
      · rw [if_pos hlong] at C
        have C := Hd C
        have HL := Hd hlong
        clear hlong
        go_wp2_with (first | (go_at_call 161; with_reducible refine (C.out _ (HB.out.alloc HB.out.size _)).mono ?_; rintro e w' ⟨rfl, hb'⟩; have B1 := belowTo (HB.out.alloc HB.out.size _) hb'))
        go_roundw
        case rel =>
          refine ⟨i + 1, by go_num, hlt, Hd fun j hj h => ?_, B1⟩
          rcases (by omega : j < i ∨ j = i) with hj | rfl
          · exact HN.out j hj h
          · exact HL.out
        case measure => simp [intOf]; omega
      · rw [if_neg hlong] at C
        have C := Hd C
        have HL := Hd hlong
        clear hlong
        go_wp2_with (first | (go_at_call 161; with_reducible refine (C.out _ (HB.out.alloc HB.out.size _)).mono ?_; rintro e w' ⟨rfl, hb'⟩; have B1 := belowTo (HB.out.alloc HB.out.size _) hb'))
        go_ret
        have e : l.all ks = false := List.all_eq_false.2 ⟨l[i], List.getElem_mem hlt, HL.out⟩
        exact ⟨by rw [e]; rfl, B1⟩
    · have HB := Hd hb
      clear hb
      go_wp2_with fail
      go_ret
      have e : l.all ks = true := List.all_eq_true.2 fun x hx => by
        obtain ⟨j, hj, rfl⟩ := List.getElem_of_mem hx
        exact HN.out j (by omega) hj
      exact ⟨by rw [e]; rfl, HB.out⟩

theorem chkE_bool (n1 n2 : Bool) (xs ys : List Nat) : chkE n1 n2 xs ys = if (chkE n1 n2 xs ys == 0) = true then 0 else 1 := by
  unfold chkE
  split <;> (try split) <;> simp_all
theorem checks_new (n1 n2 : Bool) (A B : Option Addr) (c e0 : Nat) (xs ys : List Nat) (V : World) (g' : Nat) (h : Raw V A c xs) (g : Raw V B e0 ys) (hg : V.heap.size = g') :
    Calls Tryz.prog 92 #[.slice (some ⟨g', 0, none⟩) 1 1] (V.alloc (.cells #[.bool n1, .slice A xs.length c, .bool n2, .slice B ys.length e0] 56)) fun e w' => e = .returned (.bool (chkE n1 n2 xs ys == 0)) ∧ Below (V.alloc (.cells #[.bool n1, .slice A xs.length c, .bool n2, .slice B ys.length e0] 56)).heap.size (V.alloc (.cells #[.bool n1, .slice A xs.length c, .bool n2, .slice B ys.length e0] 56)) w' := by
  have := ratio_Checks [⟨n1, A, xs.length, c, n2, B, ys.length, e0⟩] (fun _ => chkE n1 n2 xs ys == 0) (some ⟨g', 0, none⟩) 1 (by simp) (V.alloc (.cells #[.bool n1, .slice A xs.length c, .bool n2, .slice B ys.length e0] 56))
    (by subst hg; exact (Reads.new1 V 56 4 [.bool n1, .slice A xs.length c, .bool n2, .slice B ys.length e0] rfl).more (by simp))
    (by
      intro q hq W hW
      obtain rfl : q = ⟨n1, A, xs.length, c, n2, B, ys.length, e0⟩ := by simpa using hq
      rw [← chkE_bool]
      exact ratio_Check n1 n2 A B c e0 xs ys W ((h.alloc _).below hW) ((g.alloc _).below hW))
  simpa using this
/- FracCost, TwinFrac, LeftFrac of the laws; Checks and Sign of the references. (Written by wip/frac/genflaw.py.) -/

theorem frac_size (n1 n2 : Bool) (A B : Option Addr) (c e0 : Nat) (xs ys : List Nat) (hx : xs.length ≤ 1152921504606846975) (hy : ys.length ≤ 1152921504606846975) (w : World) :
    Calls Tryz.prog 90 #[.agg #[.bool n1, .slice A xs.length c, .bool n2, .slice B ys.length e0]] w fun e w' => e = .returned (.int .i64 ((1 + xs.length + (1 + ys.length) : Nat) : Int)) ∧ Below w.heap.size w w' := by
  have D1 := fun V => intSize_any n1 A c xs.length hx V
  have D2 := fun V => intSize_any n2 B e0 ys.length hy V
  obtain ⟨s1, hs1⟩ : ∃ k : Nat, k = 1 + xs.length := ⟨_, rfl⟩
  obtain ⟨s2, hs2⟩ : ∃ k : Nat, k = 1 + ys.length := ⟨_, rfl⟩
  rw [← hs1] at D1 ⊢
  rw [← hs2] at D2 ⊢
  obtain ⟨s3, hs3⟩ : ∃ k : Nat, k = s1 + s2 := ⟨_, rfl⟩
  rw [← hs3]
  have HW := Hd (show IntKind.i64.wrap ((s1 : Int) + (s2 : Int)) = (s3 : Int) from by rw [IntKind.wrap_i64]; omega)
  have H1 := Hd D1
  have H2 := Hd D2
  clear D1 D2 hx hy hs1 hs2 hs3
  have px := Quad.new w (.bool n1) (.slice A xs.length c) (.bool n2) (.slice B ys.length e0)
  have b0 := (Below.refl w.heap.size w).alloc (Nat.le_refl _) (.cells #[.bool n1, .slice A xs.length c, .bool n2, .slice B ys.length e0] 56)
  have PX := Hd px
  have HB := Hd b0
  clear px b0
  go_enter Tryz.func90, Tryz.ntmps90
  go_wp2_with fail
  obtain ⟨W, E⟩ : ∃ W, W = w.alloc (.cells #[.bool n1, .slice A xs.length c, .bool n2, .slice B ys.length e0] 56) := ⟨_, rfl⟩
  rw [← E] at PX HB ⊢
  clear E
  refine wp_region_free [.val (.pointer (some ⟨w.heap.size, 0, none⟩)) [], .val (.agg #[.bool n1, .slice A xs.length c]) [], .val (.int .i64 s1) [], .val (.pointer (some ⟨w.heap.size, 2, none⟩)) [], .val (.agg #[.bool n2, .slice B ys.length e0]) [], .val (.int .i64 s2) [], .val (.int .i64 s3) [], .val (.int .i64 s3) []] W.heap.size W [] blkInt _ mixedOrders2 (Nat.le_refl _) (Below.refl _ _) (KeptV.refl _ _ _) rfl (by kernel_rfl) (by kernel_rfl) (by kernel_rfl) (by kernel_rfl) (by kernel_rfl) (by kernel_rfl) (by kernel_rfl) (by kernel_rfl) rfl (by simp [oldsF]) ?_ ?_ ?_ ?_
  · simp only [StableF]
  · simp only [OldsF]
  · simp (maxSteps := 4000000) [StepsF, DepF, freeAct, fill, pairs]
    repeat' (first | apply And.intro | (intro (u : Value)) | (intro (u : Nat)))
    all_goals
      intro V hV hK
      obtain ⟨-, a_x, b_x, c_x, d_x, -, -, -, -⟩ := (PX.out.below hV).facts
      clear hV hK
      go_simp
      first
      | exact Below.refl _ _
      | exact ⟨HW.out, Below.refl _ _⟩
      | ((with_reducible refine (H1.out V).mono ?_); rintro e w' ⟨rfl, hb⟩; exact ⟨rfl, hb⟩)
      | ((with_reducible refine (H2.out V).mono ?_); rintro e w' ⟨rfl, hb⟩; exact ⟨rfl, hb⟩)
  · simp [EndF, FactsF, freeAct, fill, pairs]
    intro V hV hK _ _ _
    have HB := Hd (belowTo HB.out hV)
    clear hV hK
    go_wp2_with fail
    go_ret
    exact ⟨rfl, HB.out⟩

def fcost (a b : Nat) : Nat := 1 + a + (1 + b) + costN a b
theorem fcost_le {a b : Nat} (ha : a ≤ 1152921504606846975) (hb : b ≤ 1152921504606846975) : fcost a b ≤ 2305913377957871618 := by
  have := costN_le a b
  unfold fcost
  omega

theorem frac_cost (n1 n2 : Bool) (A B : Option Addr) (c e0 : Nat) (xs ys : List Nat) (hx : xs.length ≤ 1152921504606846975) (hy : ys.length ≤ 1152921504606846975) (w : World) (h : Raw w A c xs) (g : Raw w B e0 ys) :
    Calls Tryz.prog 17 #[.agg #[.bool n1, .slice A xs.length c, .bool n2, .slice B ys.length e0]] w fun e w' => e = .returned (.int .i64 (fcost xs.length ys.length : Nat)) ∧ Below w.heap.size w w' := by
  have D1 := fun V => frac_size n1 n2 A B c e0 xs ys hx hy V
  have D2 := fun (V : World) (h : Raw V A c xs) (g : Raw V B e0 ys) => cost_low n1 n2 A B c e0 xs ys V h g
  rw [costLow_N] at D2
  have hc := costN_le xs.length ys.length
  obtain ⟨s1, hs1⟩ : ∃ k : Nat, k = 1 + xs.length + (1 + ys.length) := ⟨_, rfl⟩
  obtain ⟨s2, hs2⟩ : ∃ k : Nat, k = costN xs.length ys.length := ⟨_, rfl⟩
  obtain ⟨s3, hs3⟩ : ∃ k : Nat, k = fcost xs.length ys.length := ⟨_, rfl⟩
  have e3 : s3 = s1 + s2 := by rw [hs3, hs1, hs2]; rfl
  rw [← hs1] at D1
  rw [← hs2] at D2 hc
  rw [← hs3]
  have HW := Hd (show IntKind.i64.wrap ((s1 : Int) + (s2 : Int)) = (s3 : Int) from by rw [IntKind.wrap_i64]; omega)
  have H1 := Hd D1
  have H2 := Hd D2
  clear D1 D2 hx hy hs1 hs2 hs3 e3 hc
  have px := Quad.new w (.bool n1) (.slice A xs.length c) (.bool n2) (.slice B ys.length e0)
  have b0 := (Below.refl w.heap.size w).alloc (Nat.le_refl _) (.cells #[.bool n1, .slice A xs.length c, .bool n2, .slice B ys.length e0] 56)
  have rx := Hd (h.below b0)
  have ry := Hd (g.below b0)
  clear h g
  have PX := Hd px
  have HB := Hd b0
  clear px b0
  go_enter Tryz.func17, Tryz.ntmps17
  go_wp2_with fail
  obtain ⟨W, E⟩ : ∃ W, W = w.alloc (.cells #[.bool n1, .slice A xs.length c, .bool n2, .slice B ys.length e0] 56) := ⟨_, rfl⟩
  rw [← E] at PX HB rx ry ⊢
  clear E
  refine wp_region_free [.val (.agg #[.bool n1, .slice A xs.length c, .bool n2, .slice B ys.length e0]) [], .val (.int .i64 s1) [], .val (.pointer (some ⟨w.heap.size, 0, none⟩)) [], .val (.agg #[.bool n1, .slice A xs.length c]) [], .val (.pointer (some ⟨w.heap.size, 2, none⟩)) [], .val (.agg #[.bool n2, .slice B ys.length e0]) [], .val (.int .i64 s2) [], .val (.int .i64 s3) [], .val (.int .i64 s3) []] W.heap.size W [] blkInt _ mixedOrders2 (Nat.le_refl _) (Below.refl _ _) (KeptV.refl _ _ _) rfl (by kernel_rfl) (by kernel_rfl) (by kernel_rfl) (by kernel_rfl) (by kernel_rfl) (by kernel_rfl) (by kernel_rfl) (by kernel_rfl) rfl (by simp [oldsF]) ?_ ?_ ?_ ?_
  · simp only [StableF]
  · simp only [OldsF]
  · simp (maxSteps := 4000000) [StepsF, DepF, freeAct, fill, pairs]
    repeat' (first | apply And.intro | (intro (u : Value)) | (intro (u : Nat)))
    all_goals
      intro V hV hK
      obtain ⟨-, a_x, b_x, c_x, d_x, -, -, -, -⟩ := (PX.out.below hV).facts
      have r1 := rx.out.below hV
      have r2 := ry.out.below hV
      clear hV hK
      go_simp
      first
      | exact Below.refl _ _
      | exact ⟨HW.out, Below.refl _ _⟩
      | ((with_reducible refine (H1.out V).mono ?_); rintro e w' ⟨rfl, hb⟩; exact ⟨rfl, hb⟩)
      | ((with_reducible refine (H2.out V r1 r2).mono ?_); rintro e w' ⟨rfl, hb⟩; exact ⟨rfl, hb⟩)
  · simp [EndF, FactsF, freeAct, fill, pairs]
    intro V hV hK _ _ _
    have HB := Hd (belowTo HB.out hV)
    clear hV hK
    go_wp2_with fail
    go_ret
    exact ⟨rfl, HB.out⟩

structure TwinI (neg : Bool) (xs : List Nat) (v : Value) (V : World) : Prop where
  form : ∃ g, v = .agg #[.bool neg, .slice (some ⟨g, 0, none⟩) xs.length (xs.length + 1)] ∧ TwinAt V g xs
theorem TwinI.kept {neg : Bool} {xs : List Nat} {v : Value} {V V' : World} {B : Nat} {Ts : List TypeId} (h : TwinI neg xs v V) (k : KeptV B Ts V V') (hT : 70 ∉ Ts) : TwinI neg xs v V' := by
  obtain ⟨g, h1, h2⟩ := h.form
  exact ⟨g, h1, ⟨k.blk h2.blk hT⟩⟩
structure TwinF (n1 n2 : Bool) (xs ys : List Nat) (v : Value) (V : World) : Prop where
  form : ∃ g1 g2, v = .agg #[.bool n1, .slice (some ⟨g1, 0, none⟩) xs.length (xs.length + 1), .bool n2, .slice (some ⟨g2, 0, none⟩) ys.length (ys.length + 1)] ∧ TwinAt V g1 xs ∧ TwinAt V g2 ys
theorem TwinF.kept {n1 n2 : Bool} {xs ys : List Nat} {v : Value} {V V' : World} {B : Nat} {Ts : List TypeId} (h : TwinF n1 n2 xs ys v V) (k : KeptV B Ts V V') (hT : 70 ∉ Ts) : TwinF n1 n2 xs ys v V' := by
  obtain ⟨g1, g2, h1, h2, h3⟩ := h.form
  exact ⟨g1, g2, h1, ⟨k.blk h2.blk hT⟩, ⟨k.blk h3.blk hT⟩⟩
theorem TwinF.cells {n1 n2 : Bool} {xs ys : List Nat} {v : Value} {V : World} (h : TwinF n1 n2 xs ys v V) : CellsN v 4 := by
  obtain ⟨g1, g2, rfl, -⟩ := h.form
  exact ⟨rfl, by simp [Value.cells, Value.oneCell']⟩
theorem TwinF.below {n1 n2 : Bool} {xs ys : List Nat} {v : Value} {V V' : World} (h : TwinF n1 n2 xs ys v V) (k : Below V.heap.size V V') : TwinF n1 n2 xs ys v V' := by
  obtain ⟨g1, g2, h1, h2, h3⟩ := h.form
  exact ⟨g1, g2, h1, h2.below k, h3.below k⟩

theorem twin_frac (n1 n2 : Bool) (A B : Option Addr) (c e0 : Nat) (xs ys : List Nat) (w : World) (h : Raw w A c xs) (g : Raw w B e0 ys) (hx : xs.length ≤ 1048576) (hy : ys.length ≤ 1048576) :
    Calls Tryz.prog 18 #[.agg #[.bool n1, .slice A xs.length c, .bool n2, .slice B ys.length e0]] w fun e w' => ∃ v, e = .returned v ∧ TwinF n1 n2 xs ys v w' ∧ Below w.heap.size w w' := by
  have px := (Quad.new w (.bool n1) (.slice A xs.length c) (.bool n2) (.slice B ys.length e0)).alloc (.cells #[.bool false, .slice none 0 0, .bool false, .slice none 0 0] 56)
  have pr := Quad.new (w.alloc (.cells #[.bool n1, .slice A xs.length c, .bool n2, .slice B ys.length e0] 56)) (.bool false) (.slice none 0 0) (.bool false) (.slice none 0 0)
  have b0 := ((Below.refl w.heap.size w).alloc (Nat.le_refl _) (.cells #[.bool n1, .slice A xs.length c, .bool n2, .slice B ys.length e0] 56)).alloc (by simp) (.cells #[.bool false, .slice none 0 0, .bool false, .slice none 0 0] 56)
  simp only [World.size_alloc] at pr
  have H1 := Hd (fun (V : World) (h : Raw V A c xs) => twin_any n1 A c xs V h hx)
  have H2 := Hd (fun (V : World) (h : Raw V B e0 ys) => twin_any n2 B e0 ys V h hy)
  have RW := Hd h
  have KW := Hd g
  have PX := Hd px
  have PR := Hd pr
  have HB := Hd b0
  clear px pr b0 h g hx hy
  go_enter Tryz.func18, Tryz.ntmps18
  go_wp2_with fail
  obtain ⟨W, E⟩ : ∃ W, W = (w.alloc (.cells #[.bool n1, .slice A xs.length c, .bool n2, .slice B ys.length e0] 56)).alloc (.cells #[.bool false, .slice none 0 0, .bool false, .slice none 0 0] 56) := ⟨_, rfl⟩
  rw [← E] at PX PR HB ⊢
  clear E
  have hsz := PR.out.blk.lt
  refine wp_region_free [.val (.pointer (some ⟨w.heap.size, 0, none⟩)) [], .val (.agg #[.bool n1, .slice A xs.length c]) [], .any false (fun u V => TwinI n1 xs u V) [], .val (.pointer (some ⟨w.heap.size, 2, none⟩)) [], .val (.agg #[.bool n2, .slice B ys.length e0]) [], .any false (fun u V => TwinI n2 ys u V) [], .any false (fun u V => TwinF n1 n2 xs ys u V) [2, 5], .old (w.heap.size + 1) 56 #[.bool false, .slice none 0 0, .bool false, .slice none 0 0] 0 4 6 []] (w.heap.size + 1) W [56] blkInt _ mixedOrders2 (by omega) (Below.refl _ _) (KeptV.refl _ _ _) rfl (by kernel_rfl) (by kernel_rfl) (by kernel_rfl) (by kernel_rfl) (by kernel_rfl) (by kernel_rfl) (by kernel_rfl) (by kernel_rfl) rfl (by simp [oldsF]) ?_ ?_ ?_ ?_
  · simp only [StableF, and_true]
    exact ⟨fun u V V' h k => h.kept k (by decide), fun u V V' h k => h.kept k (by decide), fun u V V' h k => h.kept k (by decide)⟩
  · simp only [OldsF, and_true]
    exact ⟨Nat.le_refl _, PR.out.blk.lt, PR.out.blk, by simp⟩
  · simp (maxSteps := 4000000) [StepsF, DepF, freeAct, fill, pairs]
    repeat' (first | apply And.intro | (intro (u : Value)) | (intro (u : Nat)))
    all_goals try exact ⟨_, _, _, rfl, rfl, rfl, rfl, fracInfo⟩
    all_goals first
    | (intro V hV hK
       have qx : Quad V w.heap.size _ _ _ _ := ⟨PX.out.blk.below hV (Nat.lt_succ_self _)⟩
       obtain ⟨-, a_x, b_x, c_x, d_x, -, -, -, -⟩ := qx.facts
       have rn := Hd (RW.out.below (HB.out.trans (hV.mono (by omega))))
       have rd := Hd (KW.out.below (HB.out.trans (hV.mono (by omega))))
       clear hV hK qx
       go_simp
       first
       | exact Below.refl _ _
       | ((with_reducible refine (H1.out V rn.out).mono ?_); rintro e w' ⟨g, rfl, ht, _, hb⟩; exact ⟨⟨g, rfl, ht⟩, hb⟩)
       | ((with_reducible refine (H2.out V rd.out).mono ?_); rintro e w' ⟨g, rfl, ht, _, hb⟩; exact ⟨⟨g, rfl, ht⟩, hb⟩))
    | (intro V hV hK h1 h2
       obtain ⟨g1, rfl, t1⟩ := h1.form
       obtain ⟨g2, rfl, t2⟩ := h2.form
       clear hV hK h1 h2
       go_simp
       exact ⟨⟨g1, g2, rfl, t1, t2⟩, Below.refl _ _⟩)
    | exact fun _ _ _ (h : TwinF _ _ _ _ _ _) => h.cells
  · simp [EndF, FactsF, freeAct, fill, pairs]
    intro u1 u2 u3 V hV hK h1 h2 h3 bq _ _ _
    have HF := Hd h3
    obtain ⟨g1, g2, rfl, -⟩ := h3.form
    simp [setAll, Value.cells] at bq
    have k0 := bq.cell 0
    have k1 := bq.cell 1
    have k2 := bq.cell 2
    have k3 := bq.cell 3
    simp at k0 k1 k2 k3
    have HB9 := Hd (HB.out.trans (hV.mono (by omega)))
    clear h1 h2 h3 hV hK bq
    go_wp2_with fail
    exact bodyPost_ret (by simp [results, Tryz.results18, go_sem, k0, k1, k2, k3]) rfl ⟨_, rfl, HF.out, HB9.out⟩

theorem left_frac (n1 n2 : Bool) (A B : Option Addr) (c e0 : Nat) (xs ys : List Nat) (g1 g2 : Nat) (w : World) (h : Raw w A c xs) (g : Raw w B e0 ys) (t1 : TwinAt w g1 xs) (t2 : TwinAt w g2 ys) (hx : xs.length ≤ 1048576) (hy : ys.length ≤ 1048576) :
    Calls Tryz.prog 23 #[.agg #[.bool n1, .slice (some ⟨g1, 0, none⟩) xs.length (xs.length + 1), .bool n2, .slice (some ⟨g2, 0, none⟩) ys.length (ys.length + 1)], .agg #[.bool n1, .slice A xs.length c, .bool n2, .slice B ys.length e0]] w fun e w' => e = .returned (.bool true) ∧ Below w.heap.size w w' := by
  have pt := (Quad.new w (.bool n1) (.slice (some ⟨g1, 0, none⟩) xs.length (xs.length + 1)) (.bool n2) (.slice (some ⟨g2, 0, none⟩) ys.length (ys.length + 1))).alloc (.cells #[.bool n1, .slice A xs.length c, .bool n2, .slice B ys.length e0] 56)
  have px := Quad.new (w.alloc (.cells #[.bool n1, .slice (some ⟨g1, 0, none⟩) xs.length (xs.length + 1), .bool n2, .slice (some ⟨g2, 0, none⟩) ys.length (ys.length + 1)] 56)) (.bool n1) (.slice A xs.length c) (.bool n2) (.slice B ys.length e0)
  have b0 := ((Below.refl w.heap.size w).alloc (Nat.le_refl _) (.cells #[.bool n1, .slice (some ⟨g1, 0, none⟩) xs.length (xs.length + 1), .bool n2, .slice (some ⟨g2, 0, none⟩) ys.length (ys.length + 1)] 56)).alloc (by simp) (.cells #[.bool n1, .slice A xs.length c, .bool n2, .slice B ys.length e0] 56)
  simp only [World.size_alloc] at px
  have PT := Hd pt
  have PX := Hd px
  have HB := Hd b0
  have RX := Hd (h.below b0)
  have RY := Hd (g.below b0)
  have T1 := Hd (t1.below b0)
  have T2 := Hd (t2.below b0)
  have HL := Hd (And.intro hx hy)
  clear pt px b0 h g t1 t2 hx hy
  go_enter Tryz.func23, Tryz.ntmps23
  go_wp2_with fail
  obtain ⟨W, E⟩ : ∃ W, W = (w.alloc (.cells #[.bool n1, .slice (some ⟨g1, 0, none⟩) xs.length (xs.length + 1), .bool n2, .slice (some ⟨g2, 0, none⟩) ys.length (ys.length + 1)] 56)).alloc (.cells #[.bool n1, .slice A xs.length c, .bool n2, .slice B ys.length e0] 56) := ⟨_, rfl⟩
  rw [← E] at PT PX HB RX RY T1 T2 ⊢
  clear E
  obtain ⟨l_t, t0, t1, t2, t3, -, -, -, -⟩ := PT.out.facts
  obtain ⟨l_x, x0, x1, x2, x3, -, -, -, -⟩ := PX.out.facts
  go_wp2_with fail
  refine (left_any n1 A c g1 xs W RX.out T1.out HL.out.1).mono ?_
  rintro e wx1 ⟨rfl, hb⟩
  clear l_t t0 t1 t2 t3 l_x x0 x1 x2 x3
  have HS_wx1 := Hd (show W.heap.size ≤ wx1.heap.size from hb.size)
  have PT := Hd (PT.out.below hb)
  have PX := Hd (PX.out.below hb)
  have RX := Hd (RX.out.below hb)
  have RY := Hd (RY.out.below hb)
  have T1 := Hd (T1.out.below hb)
  have T2 := Hd (T2.out.below hb)
  have HB := Hd (belowTo HB.out hb)
  obtain ⟨l_t, t0, t1, t2, t3, -, -, -, -⟩ := PT.out.facts
  obtain ⟨l_x, x0, x1, x2, x3, -, -, -, -⟩ := PX.out.facts
  go_wp2_with fail
  refine (left_any n2 B e0 g2 ys wx1 RY.out T2.out HL.out.2).mono ?_
  rintro e wx2 ⟨rfl, hb⟩
  clear l_t t0 t1 t2 t3 l_x x0 x1 x2 x3
  have HS_wx2 := Hd (show wx1.heap.size ≤ wx2.heap.size from hb.size)
  have PT := Hd (PT.out.below hb)
  have PX := Hd (PX.out.below hb)
  have RX := Hd (RX.out.below hb)
  have RY := Hd (RY.out.below hb)
  have T1 := Hd (T1.out.below hb)
  have T2 := Hd (T2.out.below hb)
  have HB := Hd (belowTo HB.out hb)
  go_wp2_with fail
  go_ret
  exact ⟨rfl, HB.out⟩

theorem beyond_big (A : Option Addr) (c : Nat) (zs : List Nat) (hz : zs.length ≤ 1000) (hm : ∀ z ∈ zs, z ≤ 4611686018427387904) (w : World) (B : Nat) (hr : Reads w B 1 A zs.length (cellsI zs)) :
    Calls Tryz.prog 16 #[.slice A zs.length c] w fun e w' => e = .returned (.bool (decide (1048576 < zs.sum))) ∧ w = w' := by
  have HR := Hd hr
  have HM := Hd hm
  clear hr hm
  go_enter Tryz.func16, Tryz.ntmps16
  go_wp2_with fail
  go_loop [3, 4] (fun n i => ∃ k s : Nat, i = .int .i64 k ∧ n = .int .i64 s ∧ k ≤ zs.length ∧ s = (zs.take k).sum ∧ s ≤ 1048576) (fun _ i => zs.length - (intOf i).toNat)
  case atStart => exact ⟨0, 0, rfl, rfl, Nat.zero_le _, rfl, by omega⟩
  case round =>
    obtain ⟨k, s, rfl, rfl, hk, hs, hle⟩ := hrel
    have HS := Hd hs
    clear hs
    by_cases hlt : k < zs.length
    · obtain ⟨ad, rfl, -, hc⟩ := HR.out.2 (by omega)
      have hcell := hc k _ (cellsI_get hlt)
      have hz1 := HM.out zs[k] (List.getElem_mem hlt)
      have hs2 := sum_take_more zs k hlt
      rw [← HS.out] at hs2
      have HS2 := Hd hs2
      clear hc hs2
      generalize zs[k] = z at *
      by_cases hbig : s + z ≤ 1048576
      · go_wp2_with fail
        go_round
        case rel => exact ⟨k + 1, s + z, by go_num, by go_num, hlt, HS2.out.symm, hbig⟩
        case measure => simp [intOf]; omega
      · have hd : decide (1048576 < zs.sum) = true := by
          have h1 := sum_take_le zs (k + 1)
          rw [HS2.out] at h1
          simp; omega
        have HD := Hd hd
        clear hd
        have hbig2 : 1048576 < (s : Int) + (z : Int) := by omega
        clear hbig
        go_wp2
        go_ret
        exact ⟨by rw [HD.out]; rfl, rfl⟩
    · have hd : decide (1048576 < zs.sum) = false := by
        have h1 := HS.out
        rw [List.take_of_length_le (by omega)] at h1
        simp; omega
      have HD := Hd hd
      clear hd
      go_wp2
      go_ret
      exact ⟨by rw [HD.out]; rfl, rfl⟩
theorem beyond_of2 (ns : List Nat) (b : Bool) (hl : ns.length ≤ 1000) (hm : ∀ z ∈ ns, z ≤ 4611686018427387904) (hb : b = decide (1048576 < ns.sum)) (u : Value) (V : World) (h : SliceOf ns u V) :
    Calls Tryz.prog 16 #[u] V fun e w' => e = .returned (.bool b) ∧ Below V.heap.size V w' := by
  obtain ⟨g, t, rfl, h2⟩ := h.form
  subst hb
  refine (beyond_big (some ⟨g, 0, none⟩) ns.length ns hl hm V V.heap.size ?_).mono ?_
  · refine ⟨by rw [cellsI_length, Nat.mul_one], fun _ => ⟨_, rfl, h2.lt, fun j u hu => ?_⟩⟩
    rw [show (⟨g, 0, none⟩ : Addr).add j = ⟨g, j, none⟩ by unfold Addr.add; split <;> simp_all, h2.cell j, ← hu]
    simp
  · rintro e w' ⟨rfl, rfl⟩
    exact ⟨rfl, Below.refl _ _⟩

theorem ref02_Checks (l : List FLoc) (ks : FLoc → Bool) (A : Option Addr) (c : Nat) (hl : l.length ≤ 9223372036854775807) (w : World) (h : Reads w w.heap.size 4 A l.length (cellsF l))
    (H : ∀ q ∈ l, ∀ V, Below w.heap.size w V → Calls Tryz.prog 163 #[q.val] V fun e w' => e = .returned (.int .i64 (if ks q then 0 else 1)) ∧ Below V.heap.size V w') :
    Calls Tryz.prog 94 #[.slice A l.length c] w fun e w' => e = .returned (.bool (l.all ks)) ∧ Below w.heap.size w w' := by
  have HR := Hd h
  have HS := Hd H
  clear h H
  have H0 := Hd (by intro j hj; omega : ∀ j (_ : j < 0), (h : j < l.length) → ks l[j] = true)
  go_enter Tryz.func94, Tryz.ntmps94
  go_wp2_with fail
  go_loopw [3] (fun s wr => ∃ i : Nat, s = .int .i64 i ∧ i ≤ l.length ∧ Hid (∀ j (_ : j < i), (h : j < l.length) → ks l[j] = true) ∧ Below w.heap.size w wr) (fun s _ => l.length - (intOf s).toNat)
  case atStart => exact ⟨0, rfl, Nat.zero_le _, H0, Below.refl _ _⟩
  case round =>
    obtain ⟨i, rfl, hi, HN, hb⟩ := hrel
    clear H0
    by_cases hlt : i < l.length
    · have a0 : (0 : Int) ≤ (i : Int) := by omega
      have a1 : (i : Int) < (l.length : Int) := by omega
      obtain ⟨e0, e1, e2, e3⟩ := cellsF_get l i hlt
      obtain ⟨ad, rfl, hbl, c0, c1, c2, c3⟩ := (HR.out.below hb).row4 hlt e0 e1 e2 e3
      have C := HS.out _ (List.getElem_mem hlt)
      unfold FLoc.val at C
      have HB := Hd hb
      clear e0 e1 e2 e3 hbl hb
      by_cases hlong : ks l[i] = true
      · rw [if_pos hlong] at C
        have C := Hd C
        have HL := Hd hlong
        clear hlong
        go_wp2_with (first | (go_at_call 163; with_reducible refine (C.out _ HB.out).mono ?_; rintro e w' ⟨rfl, hb'⟩; have B1 := belowTo HB.out hb'))
        go_roundw
        case rel =>
          refine ⟨i + 1, by go_num, hlt, Hd fun j hj h => ?_, B1⟩
          rcases (by omega : j < i ∨ j = i) with hj | rfl
          · exact HN.out j hj h
          · exact HL.out
        case measure => simp [intOf]; omega
      · rw [if_neg hlong] at C
        have C := Hd C
        have HL := Hd hlong
        clear hlong
        go_wp2_with (first | (go_at_call 163; with_reducible refine (C.out _ HB.out).mono ?_; rintro e w' ⟨rfl, hb'⟩; have B1 := belowTo HB.out hb'))
        go_ret
        have e : l.all ks = false := List.all_eq_false.2 ⟨l[i], List.getElem_mem hlt, HL.out⟩
        exact ⟨by rw [e]; rfl, B1⟩
    · have HB := Hd hb
      clear hb
      go_wp2_with fail
      go_ret
      have e : l.all ks = true := List.all_eq_true.2 fun x hx => by
        obtain ⟨j, hj, rfl⟩ := List.getElem_of_mem hx
        exact HN.out j (by omega) hj
      exact ⟨by rw [e]; rfl, HB.out⟩

theorem rchecks_new (n1 n2 : Bool) (A B : Option Addr) (c e0 : Nat) (xs ys : List Nat) (V : World) (g' : Nat) (h : Raw V A c xs) (g : Raw V B e0 ys) (hg : V.heap.size = g') :
    Calls Tryz.prog 94 #[.slice (some ⟨g', 0, none⟩) 1 1] (V.alloc (.cells #[.bool n1, .slice A xs.length c, .bool n2, .slice B ys.length e0] 56)) fun e w' => e = .returned (.bool (chkE n1 n2 xs ys == 0)) ∧ Below (V.alloc (.cells #[.bool n1, .slice A xs.length c, .bool n2, .slice B ys.length e0] 56)).heap.size (V.alloc (.cells #[.bool n1, .slice A xs.length c, .bool n2, .slice B ys.length e0] 56)) w' := by
  have := ref02_Checks [⟨n1, A, xs.length, c, n2, B, ys.length, e0⟩] (fun _ => chkE n1 n2 xs ys == 0) (some ⟨g', 0, none⟩) 1 (by simp) (V.alloc (.cells #[.bool n1, .slice A xs.length c, .bool n2, .slice B ys.length e0] 56))
    (by subst hg; exact (Reads.new1 V 56 4 [.bool n1, .slice A xs.length c, .bool n2, .slice B ys.length e0] rfl).more (by simp))
    (by
      intro q hq W hW
      obtain rfl : q = ⟨n1, A, xs.length, c, n2, B, ys.length, e0⟩ := by simpa using hq
      rw [← chkE_bool]
      exact ref02_Check n1 n2 A B c e0 xs ys W ((h.alloc _).below hW) ((g.alloc _).below hW))
  simpa using this
end Go.Proofs.YtkncbenhfcpgkaaGreatDoor
