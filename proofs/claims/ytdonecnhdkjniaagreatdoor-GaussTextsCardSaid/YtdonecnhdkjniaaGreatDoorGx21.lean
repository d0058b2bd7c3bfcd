/- Several texts in one: Apart, Up, UpIn, FVar, FChecks. -/
import Derived.Test.YtdonecnhdkjniaaGreatDoorGx20
import Derived.Test.YtdonecnhdkjniaaGreatDoorGx19
set_option maxRecDepth 100000
set_option maxHeartbeats 8000000
namespace Go.Proofs.YtdonecnhdkjniaaGreatDoor
open Go.RowKit

theorem apart_true (b g0 cap m B0 : Nat) (l : Nat -> Value) (n : Nat -> Nat) (X : Nat -> List Value) (w0 w : World) (p : Plain b g0 m B0 l n) (h : Xk w0 w b g0 cap m B0 l (fun _ => ZG) n X) :
  Calls Tryz.prog 15 #[.pointer (some ⟨b, 0, none⟩)] w fun e w' => e = .returned (.bool true) /\ Below B0 w0 w' := by
 have hB0 := Hd (Nat.le_of_lt (Nat.lt_of_le_of_lt p.hb h.book.lt))
 have HP := Hd p
 have C0 := Hd (fill_limb b g0 cap m B0 l n X w0 w p h)
 have C1 := Hd (fun (V : World) (hV : Xk w0 V b g0 cap m B0 l (fun _ => ZG) n (fun j => List.replicate (n j) (YI j))) => grow_limb b g0 cap m B0 l n w0 V p hV)
 have C2 := Hd (fun (V : World) (long : Nat -> Value) (hV : Grown w0 V b g0 cap m B0 l long n m) => look_limb b g0 cap m B0 l long n w0 V p hV)
 clear p h
 go_enter Tryz.func15, Tryz.ntmps15
 go_wp2_with fail
 refine C0.out.mono ?_
 rintro e w1 ⟨rfl, hs1⟩
 have HK := Hd hs1.book
 have HS := Hd hs1
 clear hs1 C0
 go_wp2_with (first
  | (go_at_call 39; with_reducible refine (fill_Number b m _ _ HK.out).mono ?_; rintro e w' ⟨rfl, rfl⟩)
  | (go_at_call 40; with_reducible refine (fill_Float b m _ _ HK.out).mono ?_; rintro e w' ⟨rfl, rfl⟩)
  | (go_at_call 41; with_reducible refine (fill_Complex b m _ _ HK.out).mono ?_; rintro e w' ⟨rfl, rfl⟩)
  | (go_at_call 42; with_reducible refine (fill_Text b m _ _ HK.out).mono ?_; rintro e w' ⟨rfl, rfl⟩)
  | (go_at_call 43; with_reducible refine (fill_Frac b m _ _ HK.out).mono ?_; rintro e w' ⟨rfl, rfl⟩)
  | (go_at_call 44; with_reducible refine (fill_Gauss b m _ _ HK.out).mono ?_; rintro e w' ⟨rfl, rfl⟩)
  | (go_at_call 45; with_reducible refine (fill_Ray b m _ _ HK.out).mono ?_; rintro e w' ⟨rfl, rfl⟩)
  | (go_at_call 46; with_reducible refine (fill_Element b m _ _ HK.out).mono ?_; rintro e w' ⟨rfl, rfl⟩)
  | (go_at_call 47; with_reducible refine (fill_Coat b m _ _ HK.out).mono ?_; rintro e w' ⟨rfl, rfl⟩)
  | (go_at_call 48; with_reducible refine (fill_Disc b m _ _ HK.out).mono ?_; rintro e w' ⟨rfl, rfl⟩)
  | (go_at_call 49; with_reducible refine (fill_Part b m _ _ HK.out).mono ?_; rintro e w' ⟨rfl, rfl⟩)
  | (go_at_call 50; with_reducible refine (fill_Def b m _ _ HK.out).mono ?_; rintro e w' ⟨rfl, rfl⟩)
  | (go_at_call 51; with_reducible refine (fill_Item b m _ _ HK.out).mono ?_; rintro e w' ⟨rfl, rfl⟩)
  | (go_at_call 52; with_reducible refine (fill_Act b m _ _ HK.out).mono ?_; rintro e w' ⟨rfl, rfl⟩)
  | (go_at_call 53; with_reducible refine (fill_Reply b m _ _ HK.out).mono ?_; rintro e w' ⟨rfl, rfl⟩))
 refine (C1.out _ HS.out).mono ?_
 rintro e w2 ⟨rfl, long, hg2⟩
 have HK := Hd hg2.shelf.book
 have HG := Hd hg2
 clear hg2 C1 HS
 go_wp2_with (first
  | (go_at_call 55; with_reducible refine (grow_Number b m _ _ HK.out).mono ?_; rintro e w' ⟨rfl, rfl⟩)
  | (go_at_call 56; with_reducible refine (grow_Float b m _ _ HK.out).mono ?_; rintro e w' ⟨rfl, rfl⟩)
  | (go_at_call 57; with_reducible refine (grow_Complex b m _ _ HK.out).mono ?_; rintro e w' ⟨rfl, rfl⟩)
  | (go_at_call 58; with_reducible refine (grow_Text b m _ _ HK.out).mono ?_; rintro e w' ⟨rfl, rfl⟩)
  | (go_at_call 59; with_reducible refine (grow_Frac b m _ _ HK.out).mono ?_; rintro e w' ⟨rfl, rfl⟩)
  | (go_at_call 60; with_reducible refine (grow_Gauss b m _ _ HK.out).mono ?_; rintro e w' ⟨rfl, rfl⟩)
  | (go_at_call 61; with_reducible refine (grow_Ray b m _ _ HK.out).mono ?_; rintro e w' ⟨rfl, rfl⟩)
  | (go_at_call 62; with_reducible refine (grow_Element b m _ _ HK.out).mono ?_; rintro e w' ⟨rfl, rfl⟩)
  | (go_at_call 63; with_reducible refine (grow_Coat b m _ _ HK.out).mono ?_; rintro e w' ⟨rfl, rfl⟩)
  | (go_at_call 64; with_reducible refine (grow_Disc b m _ _ HK.out).mono ?_; rintro e w' ⟨rfl, rfl⟩)
  | (go_at_call 65; with_reducible refine (grow_Part b m _ _ HK.out).mono ?_; rintro e w' ⟨rfl, rfl⟩)
  | (go_at_call 66; with_reducible refine (grow_Def b m _ _ HK.out).mono ?_; rintro e w' ⟨rfl, rfl⟩)
  | (go_at_call 67; with_reducible refine (grow_Item b m _ _ HK.out).mono ?_; rintro e w' ⟨rfl, rfl⟩)
  | (go_at_call 68; with_reducible refine (grow_Act b m _ _ HK.out).mono ?_; rintro e w' ⟨rfl, rfl⟩)
  | (go_at_call 69; with_reducible refine (grow_Reply b m _ _ HK.out).mono ?_; rintro e w' ⟨rfl, rfl⟩)
  | (go_at_call 70; with_reducible refine (C2.out _ long HG.out).mono ?_; rintro e w3 ⟨rfl, hb3⟩; have hk3 := HK.out.below hb3 HK.out.lt; have HK3 := Hd hk3; clear hk3)
  | (go_at_call 71; with_reducible refine (look_Number b m _ _ HK3.out).mono ?_; rintro e w' ⟨rfl, rfl⟩)
  | (go_at_call 72; with_reducible refine (look_Float b m _ _ HK3.out).mono ?_; rintro e w' ⟨rfl, rfl⟩)
  | (go_at_call 73; with_reducible refine (look_Complex b m _ _ HK3.out).mono ?_; rintro e w' ⟨rfl, rfl⟩)
  | (go_at_call 74; with_reducible refine (look_Text b m _ _ HK3.out).mono ?_; rintro e w' ⟨rfl, rfl⟩)
  | (go_at_call 75; with_reducible refine (look_Frac b m _ _ HK3.out).mono ?_; rintro e w' ⟨rfl, rfl⟩)
  | (go_at_call 76; with_reducible refine (look_Gauss b m _ _ HK3.out).mono ?_; rintro e w' ⟨rfl, rfl⟩)
  | (go_at_call 77; with_reducible refine (look_Ray b m _ _ HK3.out).mono ?_; rintro e w' ⟨rfl, rfl⟩)
  | (go_at_call 78; with_reducible refine (look_Element b m _ _ HK3.out).mono ?_; rintro e w' ⟨rfl, rfl⟩)
  | (go_at_call 79; with_reducible refine (look_Coat b m _ _ HK3.out).mono ?_; rintro e w' ⟨rfl, rfl⟩)
  | (go_at_call 80; with_reducible refine (look_Disc b m _ _ HK3.out).mono ?_; rintro e w' ⟨rfl, rfl⟩)
  | (go_at_call 81; with_reducible refine (look_Part b m _ _ HK3.out).mono ?_; rintro e w' ⟨rfl, rfl⟩)
  | (go_at_call 82; with_reducible refine (look_Def b m _ _ HK3.out).mono ?_; rintro e w' ⟨rfl, rfl⟩)
  | (go_at_call 83; with_reducible refine (look_Item b m _ _ HK3.out).mono ?_; rintro e w' ⟨rfl, rfl⟩)
  | (go_at_call 84; with_reducible refine (look_Act b m _ _ HK3.out).mono ?_; rintro e w' ⟨rfl, rfl⟩)
  | (go_at_call 85; with_reducible refine (look_Reply b m _ _ HK3.out).mono ?_; rintro e w' ⟨rfl, rfl⟩))
 go_ret
 exact ⟨rfl, HG.out.shelf.low.trans (hb3.mono (by have := HG.out.shelf.book.lt; have := HP.out.hb; omega))⟩

def RowsUp (w : World) : Nat -> List Value -> Nat -> Prop
 | lo, [], hi => lo <= hi
 | lo, v :: vs, hi => ∃ n X mid, n <= 1073741824 /\ w.ownsRow lo XI 1 v n X /\ (∀ g, v.ownBlock = some g -> g < mid) /\ lo <= mid /\ RowsUp w mid vs hi
theorem JC.cong {w : World} {b m : Nat} {l l' : Nat -> Value} {lims : Value} (h : JC w b m l lims) (e : ∀ j, j < m -> l j = l' j) : JC w b m l' lims := by
 have : Z1 l m = Z1 l' m := by
  unfold Z1
  refine congrArg List.flatten (List.map_congr_left fun j hj => ?_)
  rw [e j (List.mem_range.1 hj)]
 exact ⟨h.book, this ▸ h.row⟩
theorem JC.new (w : World) (l : Nat -> Value) : JC (w.alloc (.cells (Z6 0 ZG) Z2)) w.heap.size 0 l ZG :=
 ⟨ZJ.new w Z2 _, ⟨rfl, .inl ⟨rfl, rfl⟩⟩⟩


structure RowsIn (w : World) (lo : Nat) (vs : List Value) (hi : Nat) : Prop where
 le : lo <= hi
 row : ∀ j, j < vs.length -> ∃ n X, n <= 1073741824 /\ w.ownsRow lo XI 1 (vs.getD j ZG) n X /\ ∀ g, (vs.getD j ZG).ownBlock = some g -> g < hi
 apart : ∀ j k, j < k -> k < vs.length -> ∀ g, (vs.getD j ZG).ownBlock = some g -> (vs.getD k ZG).ownBlock ≠ some g

structure FVar (w : World) (g : Nat) (n d : Int) (A : Option Addr) (c : Nat) (B : Option Addr) (e lo hi : Nat) : Prop where
 quad : Zz w g (.bool (decide (n < 0))) (.slice A (Za n.natAbs).length c) (.bool (decide (d < 0))) (.slice B (Za d.natAbs).length e)
 own : Zl w lo (.agg #[.bool (decide (n < 0)), .slice A (Za n.natAbs).length c, .bool (decide (d < 0)), .slice B (Za d.natAbs).length e]) n d
 top1 : ∀ x, (Value.slice A (Za n.natAbs).length c).ownBlock = some x -> x < hi
 top2 : ∀ x, (Value.slice B (Za d.natAbs).length e).ownBlock = some x -> x < hi
theorem Zl.below {w w' : World} {lo : Nat} {v : Value} {n d : Int} (h : Zl w lo v n d) (hb : Below w.heap.size w w') : Zl w' lo v n d := by
 obtain ⟨A, c, B, e, h1, h2, h3, h4⟩ := h.form
 exact ⟨A, c, B, e, h1, h2.below hb, h3.below hb, h4⟩
theorem Zl.rows {w : World} {lo c e : Nat} {n d : Int} {A B : Option Addr} (h : Zl w lo (.agg #[.bool (decide (n < 0)), .slice A (Za n.natAbs).length c, .bool (decide (d < 0)), .slice B (Za d.natAbs).length e]) n d) :
  (∃ X, w.ownsRow lo XI 1 (.slice A (Za n.natAbs).length c) (Za n.natAbs).length X) /\ (∃ X, w.ownsRow lo XI 1 (.slice B (Za d.natAbs).length e) (Za d.natAbs).length X) /\
  ∀ g, (Value.slice A (Za n.natAbs).length c).ownBlock = some g -> (Value.slice B (Za d.natAbs).length e).ownBlock ≠ some g := by
 obtain ⟨A', c', B', e', h1, h2, h3, h4⟩ := h.form
 simp only [Value.agg.injEq, Array.mk.injEq, List.cons.injEq, Value.slice.injEq, and_true, true_and] at h1
 obtain ⟨⟨rfl, rfl⟩, rfl, rfl⟩ := h1
 obtain ⟨A1, c1, p1, p2, p3, p4⟩ := h2.form
 obtain ⟨A2, c2, q1, q2, q3, q4⟩ := h3.form
 simp only [Value.agg.injEq, Array.mk.injEq, List.cons.injEq, Value.slice.injEq, and_true, true_and] at p1 q1
 obtain ⟨rfl, rfl⟩ := p1
 obtain ⟨rfl, rfl⟩ := q1
 exact ⟨⟨_, p4⟩, ⟨_, q4⟩, h4⟩
structure SliceOf (ns : List Nat) (u : Value) (V : World) : Prop where
 form : ∃ g t, u = .slice (some ⟨g, 0, none⟩) ns.length ns.length /\ ZJ V g t (cellsI ns).toArray
theorem SliceOf.new (ns : List Nat) (t : TypeId) (V : World) (vs : Array Value) (h : vs = (cellsI ns).toArray) : SliceOf ns (.slice (some ⟨V.heap.size, 0, none⟩) ns.length ns.length) (V.alloc (.cells vs t)) := by
 subst h
 exact ⟨_, _, rfl, ZJ.new _ _ _⟩
def costN (a b : Nat) : Nat := min a 1048576 * min b 1048576 / 16 * 1024
theorem costLow_N (a b : Nat) : costLow a b = ((costN a b : Nat) : Int) := by
 unfold costLow costN
 generalize min a 1048576 = p
 generalize min b 1048576 = q
 rw [Int.natCast_mul, Int.natCast_ediv, Int.natCast_mul]
 rfl
theorem costN_le (a b : Nat) : costN a b <= 70368744177664 := by
 have : min a 1048576 * min b 1048576 <= 1048576 * 1048576 := Nat.mul_le_mul (Nat.min_le_right _ _) (Nat.min_le_right _ _)
 unfold costN
 omega

structure XG where
 n1 : Bool
 A : Option Addr
 n : Nat
 c : Nat
 n2 : Bool
 B : Option Addr
 m : Nat
 e : Nat
def XG.val (q : XG) : Value := .agg #[.bool q.n1, .slice q.A q.n q.c, .bool q.n2, .slice q.B q.m q.e]
def XG.cells (q : XG) : List Value := [.bool q.n1, .slice q.A q.n q.c, .bool q.n2, .slice q.B q.m q.e]
def Ju (l : List XG) : List Value := l.flatMap XG.cells
theorem JO : ∀ (l : List XG) (k : Nat) (hk : k < l.length), (Ju l)[k * 4]? = some (.bool l[k].n1) /\ (Ju l)[k * 4 + 1]? = some (.slice l[k].A l[k].n l[k].c) /\ (Ju l)[k * 4 + 2]? = some (.bool l[k].n2) /\ (Ju l)[k * 4 + 3]? = some (.slice l[k].B l[k].m l[k].e)
 | [], k, hk => by simp at hk
 | q :: l, 0, _ => by simp [Ju, XG.cells]
 | q :: l, k + 1, hk => by
  have ih := JO l k (by simpa using hk)
  simp only [Ju, List.flatMap_cons, XG.cells, show (k + 1) * 4 = k * 4 + 4 by omega]
  simpa [Ju, XG.cells] using ih

theorem chkE_bool (n1 n2 : Bool) (xs ys : List Nat) : XC n1 n2 xs ys = if (XC n1 n2 xs ys == 0) = true then 0 else 1 := by
 unfold XC
 split <;> (try split) <;> simp_all
end Go.Proofs.YtdonecnhdkjniaaGreatDoor
