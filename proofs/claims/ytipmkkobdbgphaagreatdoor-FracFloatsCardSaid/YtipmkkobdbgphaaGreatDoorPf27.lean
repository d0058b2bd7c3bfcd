/- Several texts in one: Up, UpIn, FVar, FLaw. -/
import Derived.Test.YtipmkkobdbgphaaGreatDoorPf26
import Derived.Test.YtipmkkobdbgphaaGreatDoorPf24
import Derived.Test.YtipmkkobdbgphaaGreatDoorPf25
import Derived.Test.YtipmkkobdbgphaaGreatDoorPf08
import Derived.Test.YtipmkkobdbgphaaGreatDoorPfHd
import Derived.Test.YtipmkkobdbgphaaGreatDoorPf22
import Derived.Test.YtipmkkobdbgphaaGreatDoorPf14
set_option maxRecDepth 100000
set_option maxHeartbeats 8000000
/- Apart over a list of rows that lie one behind the other. -/
namespace Go.Proofs.YtipmkkobdbgphaaGreatDoor
open Go.RowKit

def Ym (w : World) : Nat → List Value → Nat → Prop
 | lo, [], hi => lo ≤ hi
 | lo, v :: vs, hi => ∃ n X mid, n ≤ 1073741824 ∧ w.ownsRow lo Y6 1 v n X ∧ (∀ g, v.ownBlock = some g → g < mid) ∧ lo ≤ mid ∧ Ym w mid vs hi
theorem Ym.below {w w' : World} (hb : Below w.heap.size w w') : ∀ {lo : Nat} {vs : List Value} {hi : Nat}, Ym w lo vs hi → Ym w' lo vs hi
 | _, [], _, h => h
 | _, _ :: _, _, ⟨n, X, mid, h1, h2, h3, h4, h5⟩ => ⟨n, X, mid, h1, Zn h2 hb, h3, h4, Ym.below hb h5⟩
theorem Ym.le {w : World} : ∀ {lo : Nat} {vs : List Value} {hi : Nat}, Ym w lo vs hi → lo ≤ hi
 | _, [], _, h => h
 | _, _ :: _, _, ⟨_, _, _, _, _, _, h4, h5⟩ => Nat.le_trans h4 (Ym.le h5)
theorem Ym.snoc {w : World} {v : Value} {n : Nat} {X : List Value} {hi hi' : Nat} (hn : n ≤ 1073741824) (ho : w.ownsRow hi Y6 1 v n X) (hg : ∀ g, v.ownBlock = some g → g < hi') (hh : hi ≤ hi') : ∀ {lo : Nat} {vs : List Value}, Ym w lo vs hi → Ym w lo (vs ++ [v]) hi'
 | _, [], h => ⟨n, X, hi', hn, own_base ho h, hg, Nat.le_trans h hh, Nat.le_refl _⟩
 | _, _ :: _, ⟨n', X', mid, h1, h2, h3, h4, h5⟩ => ⟨n', X', mid, h1, h2, h3, h4, Ym.snoc hn ho hg hh h5⟩
where
 own_base {w : World} {b b' : Nat} {e : TypeId} {size n : Nat} {v : Value} {xs : List Value} (h : w.ownsRow b e size v n xs) (hb : b' ≤ b) : w.ownsRow b' e size v n xs := by
   refine ⟨h.1, ?_⟩
   rcases h.2 with h8 | ⟨g, cap, cur, k1, k2, k3⟩
   · exact .inl h8
   · exact .inr ⟨g, cap, cur, k1, Nat.le_trans hb k2, k3⟩
theorem Ym.up {w : World} {hi hi' : Nat} (hh : hi ≤ hi') : ∀ {lo : Nat} {vs : List Value}, Ym w lo vs hi → Ym w lo vs hi'
 | _, [], h => Nat.le_trans h hh
 | _, _ :: _, ⟨n', X', mid, h1, h2, h3, h4, h5⟩ => ⟨n', X', mid, h1, h2, h3, h4, Ym.up hh h5⟩
theorem Ym.row {w : World} : ∀ {lo : Nat} {vs : List Value} {hi : Nat}, Ym w lo vs hi → ∀ (j : Nat), j < vs.length → ∃ n X, n ≤ 1073741824 ∧ w.ownsRow lo Y6 1 (vs.getD j Zx) n X ∧ ∀ g, (vs.getD j Zx).ownBlock = some g → g < hi
 | _, [], _, _, j, hj => by simp at hj
 | lo, v :: vs, hi, ⟨n, X, mid, h1, h2, h3, h4, h5⟩, 0, _ => ⟨n, X, h1, h2, fun g hg => Nat.lt_of_lt_of_le (h3 g hg) (Ym.le h5)⟩
 | lo, v :: vs, hi, ⟨n, X, mid, h1, h2, h3, h4, h5⟩, j + 1, hj => by
   obtain ⟨n', X', a1, a2, a3⟩ := Ym.row h5 j (by simpa using hj)
   exact ⟨n', X', a1, Ym.snoc.own_base a2 h4, a3⟩
theorem Ym.apart {w : World} : ∀ {lo : Nat} {vs : List Value} {hi : Nat}, Ym w lo vs hi → ∀ (j k : Nat), j < k → k < vs.length → ∀ g, (vs.getD j Zx).ownBlock = some g → (vs.getD k Zx).ownBlock ≠ some g
 | _, [], _, _, j, k, _, hk => by simp at hk
 | lo, v :: vs, hi, ⟨n, X, mid, h1, h2, h3, h4, h5⟩, 0, k + 1, _, hk => fun g hg hg2 => by
   obtain ⟨n', X', a1, a2, a3⟩ := Ym.row h5 k (by simpa using hk)
   have := (a2.lt g hg2).1
   have := h3 g hg
   omega
 | lo, v :: vs, hi, ⟨n, X, mid, h1, h2, h3, h4, h5⟩, j + 1, k + 1, hjk, hk => Ym.apart h5 j k (by omega) (by simpa using hk)

theorem XZ.cong {w : World} {b m : Nat} {l l' : Nat → Value} {lims : Value} (h : XZ w b m l lims) (e : ∀ j, j < m → l j = l' j) : XZ w b m l' lims := by
 have : ZI l m = ZI l' m := by
   unfold ZI
   refine congrArg List.flatten (List.map_congr_left fun j hj => ?_)
   rw [e j (List.mem_range.1 hj)]
 exact ⟨h.book, this ▸ h.row⟩
theorem XZ.new (w : World) (l : Nat → Value) : XZ (w.alloc (.cells (Z0 0 Zx) ZW)) w.heap.size 0 l Zx :=
 ⟨ZM.new w ZW _, ⟨rfl, .inl ⟨rfl, rfl⟩⟩⟩

/- Apart over a list of rows none of which lies in another's memory, in whatever order they were made. -/

structure YU (w : World) (lo : Nat) (vs : List Value) (hi : Nat) : Prop where
 le : lo ≤ hi
 row : ∀ j, j < vs.length → ∃ n X, n ≤ 1073741824 ∧ w.ownsRow lo Y6 1 (vs.getD j Zx) n X ∧ ∀ g, (vs.getD j Zx).ownBlock = some g → g < hi
 apart : ∀ j k, j < k → k < vs.length → ∀ g, (vs.getD j Zx).ownBlock = some g → (vs.getD k Zx).ownBlock ≠ some g
theorem YU.nil (w : World) (lo : Nat) : YU w lo [] lo := ⟨Nat.le_refl _, fun j hj => by simp at hj, fun j k _ hk => by simp at hk⟩
theorem YU.below {w w' : World} {lo hi : Nat} {vs : List Value} (h : YU w lo vs hi) (hb : Below w.heap.size w w') : YU w' lo vs hi :=
 ⟨h.le, fun j hj => by obtain ⟨n, X, a1, a2, a3⟩ := h.row j hj; exact ⟨n, X, a1, Zn a2 hb, a3⟩, h.apart⟩
theorem YU.up {w : World} {lo hi hi' : Nat} {vs : List Value} (h : YU w lo vs hi) (hh : hi ≤ hi') : YU w lo vs hi' :=
 ⟨Nat.le_trans h.le hh, fun j hj => by obtain ⟨n, X, a1, a2, a3⟩ := h.row j hj; exact ⟨n, X, a1, a2, fun g hg => Nat.lt_of_lt_of_le (a3 g hg) hh⟩, h.apart⟩
theorem YU.snoc {w : World} {lo hi hi' n : Nat} {vs : List Value} {v : Value} {X : List Value} (h : YU w lo vs hi) (hn : n ≤ 1073741824) (ho : w.ownsRow hi Y6 1 v n X) (hg : ∀ g, v.ownBlock = some g → g < hi') (hh : hi ≤ hi') : YU w lo (vs ++ [v]) hi' := by
 refine ⟨Nat.le_trans h.le hh, fun j hj => ?_, fun j k hjk hk g hgj => ?_⟩
 · rw [List.length_append, List.length_singleton] at hj
   rcases (by omega : j < vs.length ∨ j = vs.length) with h1 | h1
   · obtain ⟨m, Y, a1, a2, a3⟩ := h.row j h1
     rw [show (vs ++ [v]).getD j Zx = vs.getD j Zx by simp [List.getD_eq_getElem?_getD, List.getElem?_append_left h1]]
     exact ⟨m, Y, a1, a2, fun g hg' => Nat.lt_of_lt_of_le (a3 g hg') hh⟩
   · subst h1
     rw [show (vs ++ [v]).getD vs.length Zx = v by simp [List.getD_eq_getElem?_getD]]
     exact ⟨n, X, hn, Ym.snoc.own_base ho h.le, hg⟩
 · rw [List.length_append, List.length_singleton] at hk
   have hj : j < vs.length := by omega
   rw [show (vs ++ [v]).getD j Zx = vs.getD j Zx by simp [List.getD_eq_getElem?_getD, List.getElem?_append_left hj]] at hgj
   rcases (by omega : k < vs.length ∨ k = vs.length) with h1 | h1
   · rw [show (vs ++ [v]).getD k Zx = vs.getD k Zx by simp [List.getD_eq_getElem?_getD, List.getElem?_append_left h1]]
     exact h.apart j k hjk h1 g hgj
   · subst h1
     rw [show (vs ++ [v]).getD vs.length Zx = v by simp [List.getD_eq_getElem?_getD]]
     intro hv
     obtain ⟨m, Y, a1, a2, a3⟩ := h.row j hj
     have := a3 g hgj
     have := (ho.lt g hv).1
     omega
theorem YU.snoc2 {w : World} {lo hi hi' n1 n2 : Nat} {vs : List Value} {v1 v2 : Value} {X1 X2 : List Value} (h : YU w lo vs hi) (hn1 : n1 ≤ 1073741824) (hn2 : n2 ≤ 1073741824) (h1 : w.ownsRow hi Y6 1 v1 n1 X1) (h2 : w.ownsRow hi Y6 1 v2 n2 X2)
   (g1 : ∀ g, v1.ownBlock = some g → g < hi') (g2 : ∀ g, v2.ownBlock = some g → g < hi') (hh : hi ≤ hi') (hne : ∀ g, v1.ownBlock = some g → v2.ownBlock ≠ some g) : YU w lo (vs ++ [v1, v2]) hi' := by
 have a := h.snoc hn1 h1 g1 hh
 refine ⟨a.le, fun j hj => ?_, fun j k hjk hk g hgj => ?_⟩
 · rw [List.length_append] at hj
   simp at hj
   rcases (by omega : j < vs.length + 1 ∨ j = vs.length + 1) with hl | hl
   · obtain ⟨m, Y, b1, b2, b3⟩ := a.row j (by simp; omega)
     have e : (vs ++ [v1, v2]).getD j Zx = (vs ++ [v1]).getD j Zx := by
       rw [show vs ++ [v1, v2] = (vs ++ [v1]) ++ [v2] by simp]
       simp only [List.getD_eq_getElem?_getD]
       rw [List.getElem?_append_left (by simp; omega)]
     rw [e]; exact ⟨m, Y, b1, b2, b3⟩
   · subst hl
     rw [show (vs ++ [v1, v2]).getD (vs.length + 1) Zx = v2 by simp [List.getD_eq_getElem?_getD]]
     exact ⟨n2, X2, hn2, Ym.snoc.own_base h2 h.le, g2⟩
 · rw [List.length_append] at hk
   simp at hk
   have hj : j < vs.length + 1 := by omega
   have e : ∀ i, i < vs.length + 1 → (vs ++ [v1, v2]).getD i Zx = (vs ++ [v1]).getD i Zx := fun i hi => by
     rw [show vs ++ [v1, v2] = (vs ++ [v1]) ++ [v2] by simp]
     simp only [List.getD_eq_getElem?_getD]
     rw [List.getElem?_append_left (by simp; omega)]
   rw [e j hj] at hgj
   rcases (by omega : k < vs.length + 1 ∨ k = vs.length + 1) with hl | hl
   · rw [e k hl]; exact a.apart j k hjk (by simp; omega) g hgj
   · subst hl
     rw [show (vs ++ [v1, v2]).getD (vs.length + 1) Zx = v2 by simp [List.getD_eq_getElem?_getD]]
     intro hv
     rcases (by omega : j < vs.length ∨ j = vs.length) with h3 | h3
     · rw [show (vs ++ [v1]).getD j Zx = vs.getD j Zx by simp [List.getD_eq_getElem?_getD, List.getElem?_append_left h3]] at hgj
       obtain ⟨m, Y, b1, b2, b3⟩ := h.row j h3
       have := b3 g hgj
       have := (h2.lt g hv).1
       omega
     · subst h3
       rw [show (vs ++ [v1]).getD vs.length Zx = v1 by simp [List.getD_eq_getElem?_getD]] at hgj
       exact hne g hgj hv

theorem apart_in (b B0 : Nat) (vs : List Value) (lims : Value) (w0 w : World) (hne : vs ≠ []) (hlen : vs.length ≤ 1000) (hk : XZ w b vs.length (fun j => vs.getD j Zx) lims) (hr : YU w B0 vs b) (hl : Below B0 w0 w) :
   Calls Tryz.prog 18 #[.pointer (some ⟨b, 0, none⟩)] w fun e w' => e = .returned (.bool true) ∧ Below B0 w0 w' := by
 have hpos : 0 < vs.length := List.length_pos_iff.2 hne
 have hrow := hk.row
 rcases hrow.2 with ⟨-, h2⟩ | ⟨g0, cap, cur, h1, h2, h3, h4, h5, h6, h7⟩
 · omega
 · subst h1
   have hn : ∀ j, j < vs.length → ∃ X, w.ownsRow B0 Y6 1 (vs.getD j Zx) (lenOf (vs.getD j Zx)) X ∧ lenOf (vs.getD j Zx) ≤ 1073741824 := fun j hj => by
     obtain ⟨n, X, a1, a2, a3⟩ := hr.row j hj
     obtain ⟨A, c, hv⟩ := Xx (by omega) a2
     have : lenOf (vs.getD j Zx) = n := by rw [hv]; rfl
     rw [this]; exact ⟨X, a2, a1⟩
   let X : Nat → List Value := fun j => if h : j < vs.length then Classical.choose (hn j h) else []
   have hX : ∀ j, j < vs.length → w.ownsRow B0 Y6 1 (vs.getD j Zx) (lenOf (vs.getD j Zx)) (X j) := fun j hj => by
     show w.ownsRow B0 Y6 1 (vs.getD j Zx) (lenOf (vs.getD j Zx)) (if h : j < vs.length then Classical.choose (hn j h) else [])
     rw [dif_pos hj]; exact (Classical.choose_spec (hn j hj)).1
   have hcells : ∀ j, cur[j]? = if j < vs.length * 3 then (ZI (fun j => vs.getD j Zx) vs.length)[j]? else cur[j]? := fun j => by
     split
     · rename_i h
       rw [← h7, List.getElem?_take, if_pos h]; simp
     · rfl
   refine apart_true b g0 cap vs.length B0 (fun j => vs.getD j Zx) (fun j => lenOf (vs.getD j Zx)) X w0 w ⟨hr.le, by omega, hlen, fun j hj => (Classical.choose_spec (hn j hj)).2, fun j hj => ?_, fun j k hj hk hjk => ?_⟩ ⟨hk.book, ⟨cur, h3, fun j hj => ?_⟩, hX, hl⟩
   · obtain ⟨n, X, a1, a2, a3⟩ := hr.row j hj
     exact fun g hg => by have := a3 g hg; omega
   · intro g hg hg2
     rcases Nat.lt_or_ge j k with h | h
     · exact hr.apart j k h hk g hg hg2
     · exact hr.apart k j (by omega) hj g hg2 hg
   · obtain ⟨a1, a2, a3⟩ := heldCells_at (fun j => vs.getD j Zx) vs.length j hj
     rw [hcells, if_pos (by omega), hcells (j * 3 + 1), if_pos (by omega), hcells (j * 3 + 2), if_pos (by omega)]
     exact ⟨a1, a2, a3⟩
/- Variables of fractions in the laws' walks; what a law may cost; rows of a Book. -/

structure FVar (w : World) (g : Nat) (n d : Int) (A : Option Addr) (c : Nat) (B : Option Addr) (e lo hi : Nat) : Prop where
 quad : Zv w g (.bool (decide (n < 0))) (.slice A (Za n.natAbs).length c) (.bool (decide (d < 0))) (.slice B (Za d.natAbs).length e)
 own : ZG w lo (.agg #[.bool (decide (n < 0)), .slice A (Za n.natAbs).length c, .bool (decide (d < 0)), .slice B (Za d.natAbs).length e]) n d
 top1 : ∀ x, (Value.slice A (Za n.natAbs).length c).ownBlock = some x → x < hi
 top2 : ∀ x, (Value.slice B (Za d.natAbs).length e).ownBlock = some x → x < hi
theorem ZG.below {w w' : World} {lo : Nat} {v : Value} {n d : Int} (h : ZG w lo v n d) (hb : Below w.heap.size w w') : ZG w' lo v n d := by
 obtain ⟨A, c, B, e, h1, h2, h3, h4⟩ := h.form
 exact ⟨A, c, B, e, h1, h2.below hb, h3.below hb, h4⟩
theorem FVar.below {w w' : World} {g c e lo hi : Nat} {n d : Int} {A B : Option Addr} (h : FVar w g n d A c B e lo hi) (hb : Below w.heap.size w w') : FVar w' g n d A c B e lo hi := ⟨h.quad.below hb, h.own.below hb, h.top1, h.top2⟩
theorem ZG.rows {w : World} {lo c e : Nat} {n d : Int} {A B : Option Addr} (h : ZG w lo (.agg #[.bool (decide (n < 0)), .slice A (Za n.natAbs).length c, .bool (decide (d < 0)), .slice B (Za d.natAbs).length e]) n d) :
   (∃ X, w.ownsRow lo Y6 1 (.slice A (Za n.natAbs).length c) (Za n.natAbs).length X) ∧ (∃ X, w.ownsRow lo Y6 1 (.slice B (Za d.natAbs).length e) (Za d.natAbs).length X) ∧
   ∀ g, (Value.slice A (Za n.natAbs).length c).ownBlock = some g → (Value.slice B (Za d.natAbs).length e).ownBlock ≠ some g := by
 obtain ⟨A', c', B', e', h1, h2, h3, h4⟩ := h.form
 simp only [Value.agg.injEq, Array.mk.injEq, List.cons.injEq, Value.slice.injEq, and_true, true_and] at h1
 obtain ⟨⟨rfl, rfl⟩, rfl, rfl⟩ := h1
 obtain ⟨A1, c1, p1, p2, p3, p4⟩ := h2.form
 obtain ⟨A2, c2, q1, q2, q3, q4⟩ := h3.form
 simp only [Value.agg.injEq, Array.mk.injEq, List.cons.injEq, Value.slice.injEq, and_true, true_and] at p1 q1
 obtain ⟨rfl, rfl⟩ := p1
 obtain ⟨rfl, rfl⟩ := q1
 exact ⟨⟨_, p4⟩, ⟨_, q4⟩, h4⟩
theorem FVar.new {w : World} {c e lo : Nat} {n d : Int} {A B : Option Addr} (h : ZG w lo (.agg #[.bool (decide (n < 0)), .slice A (Za n.natAbs).length c, .bool (decide (d < 0)), .slice B (Za d.natAbs).length e]) n d) :
   FVar (w.alloc (.cells #[.bool (decide (n < 0)), .slice A (Za n.natAbs).length c, .bool (decide (d < 0)), .slice B (Za d.natAbs).length e] 27)) w.heap.size n d A c B e lo w.heap.size := by
 obtain ⟨⟨X, r1⟩, ⟨Y, r2⟩, -⟩ := h.rows
 exact ⟨Zv.new w _ _ _ _, h.below ((Below.refl _ _).alloc (Nat.le_refl _) _), fun x hx => (r1.lt x hx).2, fun x hx => (r2.lt x hx).2⟩
theorem FVar.at_ {w : World} {g c e lo hi : Nat} {n d : Int} {A B : Option Addr} (h : FVar w g n d A c B e lo hi) : XC w (.agg #[.bool (decide (n < 0)), .slice A (Za n.natAbs).length c, .bool (decide (d < 0)), .slice B (Za d.natAbs).length e]) n d := h.own.at_
theorem FV.at_ {w : World} {g c e : Nat} {n d : Int} {A B : Option Addr} (h : FV w g n d A c B e) : XC w (.agg #[.bool (decide (n < 0)), .slice A (Za n.natAbs).length c, .bool (decide (d < 0)), .slice B (Za d.natAbs).length e]) n d := ⟨_, _, _, _, rfl, h.num, h.den⟩
theorem FV.new {w : World} {c e : Nat} {n d : Int} {A B : Option Addr} (h : Zh w A c (Za n.natAbs)) (g : Zh w B e (Za d.natAbs)) :
   FV (w.alloc (.cells #[.bool (decide (n < 0)), .slice A (Za n.natAbs).length c, .bool (decide (d < 0)), .slice B (Za d.natAbs).length e] 27)) w.heap.size n d A c B e := ⟨Zv.new w _ _ _ _, h.alloc _, g.alloc _⟩
theorem YU.frac {w : World} {lo0 lo hi g c e : Nat} {n d : Int} {A B : Option Addr} {vs : List Value} (h : YU w lo0 vs lo) (v : FVar w g n d A c B e lo hi) (hn : lz n ≤ 1073741824) (hd : lz d ≤ 1073741824) (hh : lo ≤ hi) :
   YU w lo0 (vs ++ [.slice A (Za n.natAbs).length c, .slice B (Za d.natAbs).length e]) hi := by
 obtain ⟨⟨X, r1⟩, ⟨Y, r2⟩, h4⟩ := v.own.rows
 exact h.snoc2 hn hd r1 r2 v.top1 v.top2 hh h4
structure JB (ns : List Nat) (u : Value) (V : World) : Prop where
 form : ∃ g t, u = .slice (some ⟨g, 0, none⟩) ns.length ns.length ∧ ZM V g t (cellsI ns).toArray
theorem JB.kept {ns : List Nat} {u : Value} {V V' : World} {B : Nat} (h : JB ns u V) (k : Zo B [] V V') : JB ns u V' := by
 obtain ⟨g, t, h1, h2⟩ := h.form
 exact ⟨g, t, h1, k.blk h2 (by simp)⟩
theorem JB.new (ns : List Nat) (t : TypeId) (V : World) (vs : Array Value) (h : vs = (cellsI ns).toArray) : JB ns (.slice (some ⟨V.heap.size, 0, none⟩) ns.length ns.length) (V.alloc (.cells vs t)) := by
 subst h
 exact ⟨_, _, rfl, ZM.new _ _ _⟩
def costN (a b : Nat) : Nat := min a 1048576 * min b 1048576 / 16 * 1024
theorem costLow_N (a b : Nat) : costLow a b = ((costN a b : Nat) : Int) := by
 unfold costLow costN
 generalize min a 1048576 = p
 generalize min b 1048576 = q
 rw [Int.natCast_mul, Int.natCast_ediv, Int.natCast_mul]
 rfl
theorem costN_le (a b : Nat) : costN a b ≤ 70368744177664 := by
 have : min a 1048576 * min b 1048576 ≤ 1048576 * 1048576 := Nat.mul_le_mul (Nat.min_le_right _ _) (Nat.min_le_right _ _)
 unfold costN
 omega
/- FracCost, TwinFrac, LeftFrac of the laws; Checks and Sign of the references. (Written by wip/frac/genflaw.py.) -/

theorem frac_size (n1 n2 : Bool) (A B : Option Addr) (c e0 : Nat) (xs ys : List Nat) (hx : xs.length ≤ 1152921504606846975) (hy : ys.length ≤ 1152921504606846975) (w : World) :
   Calls Tryz.prog 41 #[.agg #[.bool n1, .slice A xs.length c, .bool n2, .slice B ys.length e0]] w fun e w' => e = .returned (.int .i64 ((1 + xs.length + (1 + ys.length) : Nat) : Int)) ∧ Below w.heap.size w w' := by
 have D1 := fun V => intSize_any n1 A c xs.length hx V
 have D2 := fun V => intSize_any n2 B e0 ys.length hy V
 obtain ⟨s1, hs1⟩ : ∃ k : Nat, k = 1 + xs.length := ⟨_, rfl⟩
 obtain ⟨s2, hs2⟩ : ∃ k : Nat, k = 1 + ys.length := ⟨_, rfl⟩
 rw [← hs1] at D1 ⊢
 rw [← hs2] at D2 ⊢
 obtain ⟨s3, hs3⟩ : ∃ k : Nat, k = s1 + s2 := ⟨_, rfl⟩
 rw [← hs3]
 have HW := Hd (show IntKind.i64.wrap ((s1 : Int) + (s2 : Int)) = (s3 : Int) from by rw [IntKind.wrap_i64]; omega)
 have H1 := Hd D1
 have H2 := Hd D2
 clear D1 D2 hx hy hs1 hs2 hs3
 have px := Zv.new w (.bool n1) (.slice A xs.length c) (.bool n2) (.slice B ys.length e0)
 have b0 := (Below.refl w.heap.size w).alloc (Nat.le_refl _) (.cells #[.bool n1, .slice A xs.length c, .bool n2, .slice B ys.length e0] 27)
 have PX := Hd px
 have HB := Hd b0
 clear px b0
 go_enter Tryz.func41, Tryz.ntmps41
 go_wp2_with fail
 obtain ⟨W, E⟩ : ∃ W, W = w.alloc (.cells #[.bool n1, .slice A xs.length c, .bool n2, .slice B ys.length e0] 27) := ⟨_, rfl⟩
 rw [← E] at PX HB ⊢
 clear E
 refine Ze [.val (.pointer (some ⟨w.heap.size, 0, none⟩)) [], .val (.agg #[.bool n1, .slice A xs.length c]) [], .val (.int .i64 s1) [], .val (.pointer (some ⟨w.heap.size, 2, none⟩)) [], .val (.agg #[.bool n2, .slice B ys.length e0]) [], .val (.int .i64 s2) [], .val (.int .i64 s3) [], .val (.int .i64 s3) []] W.heap.size W [] XM _ Zd (Nat.le_refl _) (Below.refl _ _) (Zo.refl _ _ _) rfl (by kernel_rfl) (by kernel_rfl) (by kernel_rfl) (by kernel_rfl) (by kernel_rfl) (by kernel_rfl) (by kernel_rfl) (by kernel_rfl) rfl (by simp [ZL]) ?_ ?_ ?_ ?_
 · simp only [Zr]
 · simp only [ZP]
 · simp (maxSteps := 4000000) [ZA, Z9, Zf, Zs, Zj]
   repeat' (first | apply And.intro | (intro (u : Value)) | (intro (u : Nat)))
   all_goals
     intro V hV hK
     obtain ⟨-, a_x, b_x, c_x, d_x, -, -, -, -⟩ := (PX.out.below hV).facts
     clear hV hK
     go_simp
     first
     | exact Below.refl _ _
     | exact ⟨HW.out, Below.refl _ _⟩
     | ((with_reducible refine (H1.out V).mono ?_); rintro e w' ⟨rfl, hb⟩; exact ⟨rfl, hb⟩)
     | ((with_reducible refine (H2.out V).mono ?_); rintro e w' ⟨rfl, hb⟩; exact ⟨rfl, hb⟩)
 · simp [Yd, ZC, Zf, Zs, Zj]
   intro V hV hK _ _ _
   have HB := Hd (Zb HB.out hV)
   clear hV hK
   go_wp2_with fail
   go_ret
   exact ⟨rfl, HB.out⟩

def fcost (a b : Nat) : Nat := 1 + a + (1 + b) + costN a b
theorem fcost_le {a b : Nat} (ha : a ≤ 1152921504606846975) (hb : b ≤ 1152921504606846975) : fcost a b ≤ 2305913377957871618 := by
 have := costN_le a b
 unfold fcost
 omega

theorem frac_cost (n1 n2 : Bool) (A B : Option Addr) (c e0 : Nat) (xs ys : List Nat) (hx : xs.length ≤ 1152921504606846975) (hy : ys.length ≤ 1152921504606846975) (w : World) (h : Zh w A c xs) (g : Zh w B e0 ys) :
   Calls Tryz.prog 9 #[.agg #[.bool n1, .slice A xs.length c, .bool n2, .slice B ys.length e0]] w fun e w' => e = .returned (.int .i64 (fcost xs.length ys.length : Nat)) ∧ Below w.heap.size w w' := by
 have D1 := fun V => frac_size n1 n2 A B c e0 xs ys hx hy V
 have D2 := fun (V : World) (h : Zh V A c xs) (g : Zh V B e0 ys) => cost_low n1 n2 A B c e0 xs ys V h g
 rw [costLow_N] at D2
 have hc := costN_le xs.length ys.length
 obtain ⟨s1, hs1⟩ : ∃ k : Nat, k = 1 + xs.length + (1 + ys.length) := ⟨_, rfl⟩
 obtain ⟨s2, hs2⟩ : ∃ k : Nat, k = costN xs.length ys.length := ⟨_, rfl⟩
 obtain ⟨s3, hs3⟩ : ∃ k : Nat, k = fcost xs.length ys.length := ⟨_, rfl⟩
 have e3 : s3 = s1 + s2 := by rw [hs3, hs1, hs2]; rfl
 rw [← hs1] at D1
 rw [← hs2] at D2 hc
 rw [← hs3]
 have HW := Hd (show IntKind.i64.wrap ((s1 : Int) + (s2 : Int)) = (s3 : Int) from by rw [IntKind.wrap_i64]; omega)
 have H1 := Hd D1
 have H2 := Hd D2
 clear D1 D2 hx hy hs1 hs2 hs3 e3 hc
 have px := Zv.new w (.bool n1) (.slice A xs.length c) (.bool n2) (.slice B ys.length e0)
 have b0 := (Below.refl w.heap.size w).alloc (Nat.le_refl _) (.cells #[.bool n1, .slice A xs.length c, .bool n2, .slice B ys.length e0] 27)
 have rx := Hd (h.below b0)
 have ry := Hd (g.below b0)
 clear h g
 have PX := Hd px
 have HB := Hd b0
 clear px b0
 go_enter Tryz.func9, Tryz.ntmps9
 go_wp2_with fail
 obtain ⟨W, E⟩ : ∃ W, W = w.alloc (.cells #[.bool n1, .slice A xs.length c, .bool n2, .slice B ys.length e0] 27) := ⟨_, rfl⟩
 rw [← E] at PX HB rx ry ⊢
 clear E
 refine Ze [.val (.agg #[.bool n1, .slice A xs.length c, .bool n2, .slice B ys.length e0]) [], .val (.int .i64 s1) [], .val (.pointer (some ⟨w.heap.size, 0, none⟩)) [], .val (.agg #[.bool n1, .slice A xs.length c]) [], .val (.pointer (some ⟨w.heap.size, 2, none⟩)) [], .val (.agg #[.bool n2, .slice B ys.length e0]) [], .val (.int .i64 s2) [], .val (.int .i64 s3) [], .val (.int .i64 s3) []] W.heap.size W [] XM _ Zd (Nat.le_refl _) (Below.refl _ _) (Zo.refl _ _ _) rfl (by kernel_rfl) (by kernel_rfl) (by kernel_rfl) (by kernel_rfl) (by kernel_rfl) (by kernel_rfl) (by kernel_rfl) (by kernel_rfl) rfl (by simp [ZL]) ?_ ?_ ?_ ?_
 · simp only [Zr]
 · simp only [ZP]
 · simp (maxSteps := 4000000) [ZA, Z9, Zf, Zs, Zj]
   repeat' (first | apply And.intro | (intro (u : Value)) | (intro (u : Nat)))
   all_goals
     intro V hV hK
     obtain ⟨-, a_x, b_x, c_x, d_x, -, -, -, -⟩ := (PX.out.below hV).facts
     have r1 := rx.out.below hV
     have r2 := ry.out.below hV
     clear hV hK
     go_simp
     first
     | exact Below.refl _ _
     | exact ⟨HW.out, Below.refl _ _⟩
     | ((with_reducible refine (H1.out V).mono ?_); rintro e w' ⟨rfl, hb⟩; exact ⟨rfl, hb⟩)
     | ((with_reducible refine (H2.out V r1 r2).mono ?_); rintro e w' ⟨rfl, hb⟩; exact ⟨rfl, hb⟩)
 · simp [Yd, ZC, Zf, Zs, Zj]
   intro V hV hK _ _ _
   have HB := Hd (Zb HB.out hV)
   clear hV hK
   go_wp2_with fail
   go_ret
   exact ⟨rfl, HB.out⟩

structure TwinI (neg : Bool) (xs : List Nat) (v : Value) (V : World) : Prop where
 form : ∃ g, v = .agg #[.bool neg, .slice (some ⟨g, 0, none⟩) xs.length (xs.length + 1)] ∧ Yr V g xs
theorem TwinI.kept {neg : Bool} {xs : List Nat} {v : Value} {V V' : World} {B : Nat} {Ts : List TypeId} (h : TwinI neg xs v V) (k : Zo B Ts V V') (hT : 104 ∉ Ts) : TwinI neg xs v V' := by
 obtain ⟨g, h1, h2⟩ := h.form
 exact ⟨g, h1, ⟨k.blk h2.blk hT⟩⟩
structure TwinF (n1 n2 : Bool) (xs ys : List Nat) (v : Value) (V : World) : Prop where
 form : ∃ g1 g2, v = .agg #[.bool n1, .slice (some ⟨g1, 0, none⟩) xs.length (xs.length + 1), .bool n2, .slice (some ⟨g2, 0, none⟩) ys.length (ys.length + 1)] ∧ Yr V g1 xs ∧ Yr V g2 ys
theorem TwinF.kept {n1 n2 : Bool} {xs ys : List Nat} {v : Value} {V V' : World} {B : Nat} {Ts : List TypeId} (h : TwinF n1 n2 xs ys v V) (k : Zo B Ts V V') (hT : 104 ∉ Ts) : TwinF n1 n2 xs ys v V' := by
 obtain ⟨g1, g2, h1, h2, h3⟩ := h.form
 exact ⟨g1, g2, h1, ⟨k.blk h2.blk hT⟩, ⟨k.blk h3.blk hT⟩⟩
theorem TwinF.cells {n1 n2 : Bool} {xs ys : List Nat} {v : Value} {V : World} (h : TwinF n1 n2 xs ys v V) : CellsN v 4 := by
 obtain ⟨g1, g2, rfl, -⟩ := h.form
 exact ⟨rfl, by simp [Value.cells, Value.oneCell']⟩
theorem TwinF.below {n1 n2 : Bool} {xs ys : List Nat} {v : Value} {V V' : World} (h : TwinF n1 n2 xs ys v V) (k : Below V.heap.size V V') : TwinF n1 n2 xs ys v V' := by
 obtain ⟨g1, g2, h1, h2, h3⟩ := h.form
 exact ⟨g1, g2, h1, h2.below k, h3.below k⟩

theorem twin_frac (n1 n2 : Bool) (A B : Option Addr) (c e0 : Nat) (xs ys : List Nat) (w : World) (h : Zh w A c xs) (g : Zh w B e0 ys) (hx : xs.length ≤ 1048576) (hy : ys.length ≤ 1048576) :
   Calls Tryz.prog 10 #[.agg #[.bool n1, .slice A xs.length c, .bool n2, .slice B ys.length e0]] w fun e w' => ∃ v, e = .returned v ∧ TwinF n1 n2 xs ys v w' ∧ Below w.heap.size w w' := by
 have px := (Zv.new w (.bool n1) (.slice A xs.length c) (.bool n2) (.slice B ys.length e0)).alloc (.cells #[.bool false, .slice none 0 0, .bool false, .slice none 0 0] 27)
 have pr := Zv.new (w.alloc (.cells #[.bool n1, .slice A xs.length c, .bool n2, .slice B ys.length e0] 27)) (.bool false) (.slice none 0 0) (.bool false) (.slice none 0 0)
 have b0 := ((Below.refl w.heap.size w).alloc (Nat.le_refl _) (.cells #[.bool n1, .slice A xs.length c, .bool n2, .slice B ys.length e0] 27)).alloc (by simp) (.cells #[.bool false, .slice none 0 0, .bool false, .slice none 0 0] 27)
 simp only [World.size_alloc] at pr
 have H1 := Hd (fun (V : World) (h : Zh V A c xs) => twin_any n1 A c xs V h hx)
 have H2 := Hd (fun (V : World) (h : Zh V B e0 ys) => twin_any n2 B e0 ys V h hy)
 have RW := Hd h
 have KW := Hd g
 have PX := Hd px
 have PR := Hd pr
 have HB := Hd b0
 clear px pr b0 h g hx hy
 go_enter Tryz.func10, Tryz.ntmps10
 go_wp2_with fail
 obtain ⟨W, E⟩ : ∃ W, W = (w.alloc (.cells #[.bool n1, .slice A xs.length c, .bool n2, .slice B ys.length e0] 27)).alloc (.cells #[.bool false, .slice none 0 0, .bool false, .slice none 0 0] 27) := ⟨_, rfl⟩
 rw [← E] at PX PR HB ⊢
 clear E
 have hsz := PR.out.blk.lt
 refine Ze [.val (.pointer (some ⟨w.heap.size, 0, none⟩)) [], .val (.agg #[.bool n1, .slice A xs.length c]) [], .any false (fun u V => TwinI n1 xs u V) [], .val (.pointer (some ⟨w.heap.size, 2, none⟩)) [], .val (.agg #[.bool n2, .slice B ys.length e0]) [], .any false (fun u V => TwinI n2 ys u V) [], .any false (fun u V => TwinF n1 n2 xs ys u V) [2, 5], .old (w.heap.size + 1) 27 #[.bool false, .slice none 0 0, .bool false, .slice none 0 0] 0 4 6 []] (w.heap.size + 1) W [27] XM _ Zd (by omega) (Below.refl _ _) (Zo.refl _ _ _) rfl (by kernel_rfl) (by kernel_rfl) (by kernel_rfl) (by kernel_rfl) (by kernel_rfl) (by kernel_rfl) (by kernel_rfl) (by kernel_rfl) rfl (by simp [ZL]) ?_ ?_ ?_ ?_
 · simp only [Zr, and_true]
   exact ⟨fun u V V' h k => h.kept k (by decide), fun u V V' h k => h.kept k (by decide), fun u V V' h k => h.kept k (by decide)⟩
 · simp only [ZP, and_true]
   exact ⟨Nat.le_refl _, PR.out.blk.lt, PR.out.blk, by simp⟩
 · simp (maxSteps := 4000000) [ZA, Z9, Zf, Zs, Zj]
   repeat' (first | apply And.intro | (intro (u : Value)) | (intro (u : Nat)))
   all_goals try exact ⟨_, _, _, rfl, rfl, rfl, rfl, Xc⟩
   all_goals first
   | (intro V hV hK
      have qx : Zv V w.heap.size _ _ _ _ := ⟨PX.out.blk.below hV (Nat.lt_succ_self _)⟩
      obtain ⟨-, a_x, b_x, c_x, d_x, -, -, -, -⟩ := qx.facts
      have rn := Hd (RW.out.below (HB.out.trans (hV.mono (by omega))))
      have rd := Hd (KW.out.below (HB.out.trans (hV.mono (by omega))))
      clear hV hK qx
      go_simp
      first
      | exact Below.refl _ _
      | ((with_reducible refine (H1.out V rn.out).mono ?_); rintro e w' ⟨g, rfl, ht, _, hb⟩; exact ⟨⟨g, rfl, ht⟩, hb⟩)
      | ((with_reducible refine (H2.out V rd.out).mono ?_); rintro e w' ⟨g, rfl, ht, _, hb⟩; exact ⟨⟨g, rfl, ht⟩, hb⟩))
   | (intro V hV hK h1 h2
      obtain ⟨g1, rfl, t1⟩ := h1.form
      obtain ⟨g2, rfl, t2⟩ := h2.form
      clear hV hK h1 h2
      go_simp
      exact ⟨⟨g1, g2, rfl, t1, t2⟩, Below.refl _ _⟩)
   | exact fun _ _ _ (h : TwinF _ _ _ _ _ _) => h.cells
 · simp [Yd, ZC, Zf, Zs, Zj]
   intro u1 u2 u3 V hV hK h1 h2 h3 bq _ _ _
   have HF := Hd h3
   obtain ⟨g1, g2, rfl, -⟩ := h3.form
   simp [Yb, Value.cells] at bq
   have k0 := bq.cell 0
   have k1 := bq.cell 1
   have k2 := bq.cell 2
   have k3 := bq.cell 3
   simp at k0 k1 k2 k3
   have HB9 := Hd (HB.out.trans (hV.mono (by omega)))
   clear h1 h2 h3 hV hK bq
   go_wp2_with fail
   exact bodyPost_ret (by simp [results, Tryz.results10, go_sem, k0, k1, k2, k3]) rfl ⟨_, rfl, HF.out, HB9.out⟩

theorem left_frac (n1 n2 : Bool) (A B : Option Addr) (c e0 : Nat) (xs ys : List Nat) (g1 g2 : Nat) (w : World) (h : Zh w A c xs) (g : Zh w B e0 ys) (t1 : Yr w g1 xs) (t2 : Yr w g2 ys) (hx : xs.length ≤ 1048576) (hy : ys.length ≤ 1048576) :
   Calls Tryz.prog 19 #[.agg #[.bool n1, .slice (some ⟨g1, 0, none⟩) xs.length (xs.length + 1), .bool n2, .slice (some ⟨g2, 0, none⟩) ys.length (ys.length + 1)], .agg #[.bool n1, .slice A xs.length c, .bool n2, .slice B ys.length e0]] w fun e w' => e = .returned (.bool true) ∧ Below w.heap.size w w' := by
 have pt := (Zv.new w (.bool n1) (.slice (some ⟨g1, 0, none⟩) xs.length (xs.length + 1)) (.bool n2) (.slice (some ⟨g2, 0, none⟩) ys.length (ys.length + 1))).alloc (.cells #[.bool n1, .slice A xs.length c, .bool n2, .slice B ys.length e0] 27)
 have px := Zv.new (w.alloc (.cells #[.bool n1, .slice (some ⟨g1, 0, none⟩) xs.length (xs.length + 1), .bool n2, .slice (some ⟨g2, 0, none⟩) ys.length (ys.length + 1)] 27)) (.bool n1) (.slice A xs.length c) (.bool n2) (.slice B ys.length e0)
 have b0 := ((Below.refl w.heap.size w).alloc (Nat.le_refl _) (.cells #[.bool n1, .slice (some ⟨g1, 0, none⟩) xs.length (xs.length + 1), .bool n2, .slice (some ⟨g2, 0, none⟩) ys.length (ys.length + 1)] 27)).alloc (by simp) (.cells #[.bool n1, .slice A xs.length c, .bool n2, .slice B ys.length e0] 27)
 simp only [World.size_alloc] at px
 have PT := Hd pt
 have PX := Hd px
 have HB := Hd b0
 have RX := Hd (h.below b0)
 have RY := Hd (g.below b0)
 have T1 := Hd (t1.below b0)
 have T2 := Hd (t2.below b0)
 have HL := Hd (And.intro hx hy)
 clear pt px b0 h g t1 t2 hx hy
 go_enter Tryz.func19, Tryz.ntmps19
 go_wp2_with fail
 obtain ⟨W, E⟩ : ∃ W, W = (w.alloc (.cells #[.bool n1, .slice (some ⟨g1, 0, none⟩) xs.length (xs.length + 1), .bool n2, .slice (some ⟨g2, 0, none⟩) ys.length (ys.length + 1)] 27)).alloc (.cells #[.bool n1, .slice A xs.length c, .bool n2, .slice B ys.length e0] 27) := ⟨_, rfl⟩
 rw [← E] at PT PX HB RX RY T1 T2 ⊢
 clear E
 obtain ⟨l_t, t0, t1, t2, t3, -, -, -, -⟩ := PT.out.facts
 obtain ⟨l_x, x0, x1, x2, x3, -, -, -, -⟩ := PX.out.facts
 go_wp2_with fail
 refine (left_any n1 A c g1 xs W RX.out T1.out HL.out.1).mono ?_
 rintro e wx1 ⟨rfl, hb⟩
 clear l_t t0 t1 t2 t3 l_x x0 x1 x2 x3
 have HS_wx1 := Hd (show W.heap.size ≤ wx1.heap.size from hb.size)
 have PT := Hd (PT.out.below hb)
 have PX := Hd (PX.out.below hb)
 have RX := Hd (RX.out.below hb)
 have RY := Hd (RY.out.below hb)
 have T1 := Hd (T1.out.below hb)
 have T2 := Hd (T2.out.below hb)
 have HB := Hd (Zb HB.out hb)
 obtain ⟨l_t, t0, t1, t2, t3, -, -, -, -⟩ := PT.out.facts
 obtain ⟨l_x, x0, x1, x2, x3, -, -, -, -⟩ := PX.out.facts
 go_wp2_with fail
 refine (left_any n2 B e0 g2 ys wx1 RY.out T2.out HL.out.2).mono ?_
 rintro e wx2 ⟨rfl, hb⟩
 clear l_t t0 t1 t2 t3 l_x x0 x1 x2 x3
 have HS_wx2 := Hd (show wx1.heap.size ≤ wx2.heap.size from hb.size)
 have PT := Hd (PT.out.below hb)
 have PX := Hd (PX.out.below hb)
 have RX := Hd (RX.out.below hb)
 have RY := Hd (RY.out.below hb)
 have T1 := Hd (T1.out.below hb)
 have T2 := Hd (T2.out.below hb)
 have HB := Hd (Zb HB.out hb)
 go_wp2_with fail
 go_ret
 exact ⟨rfl, HB.out⟩

theorem beyond_big (A : Option Addr) (c : Nat) (zs : List Nat) (hz : zs.length ≤ 1000) (hm : ∀ z ∈ zs, z ≤ 4611686018427387904) (w : World) (B : Nat) (hr : Zy w B 1 A zs.length (cellsI zs)) :
   Calls Tryz.prog 8 #[.slice A zs.length c] w fun e w' => e = .returned (.bool (decide (1048576 < zs.sum))) ∧ w = w' := by
 have HR := Hd hr
 have HM := Hd hm
 clear hr hm
 go_enter Tryz.func8, Tryz.ntmps8
 go_wp2_with fail
 go_loop [3, 4] (fun n i => ∃ k s : Nat, i = .int .i64 k ∧ n = .int .i64 s ∧ k ≤ zs.length ∧ s = (zs.take k).sum ∧ s ≤ 1048576) (fun _ i => zs.length - (intOf i).toNat)
 case atStart => exact ⟨0, 0, rfl, rfl, Nat.zero_le _, rfl, by omega⟩
 case round =>
   obtain ⟨k, s, rfl, rfl, hk, hs, hle⟩ := hrel
   have HS := Hd hs
   clear hs
   by_cases hlt : k < zs.length
   · obtain ⟨ad, rfl, -, hc⟩ := HR.out.2 (by omega)
     have hcell := hc k _ (cellsI_get hlt)
     have hz1 := HM.out zs[k] (List.getElem_mem hlt)
     have hs2 := sum_take_more zs k hlt
     rw [← HS.out] at hs2
     have HS2 := Hd hs2
     clear hc hs2
     generalize zs[k] = z at *
     by_cases hbig : s + z ≤ 1048576
     · go_wp2_with fail
       go_round
       case rel => exact ⟨k + 1, s + z, by go_num, by go_num, hlt, HS2.out.symm, hbig⟩
       case measure => simp [intOf]; omega
     · have hd : decide (1048576 < zs.sum) = true := by
         have h1 := sum_take_le zs (k + 1)
         rw [HS2.out] at h1
         simp; omega
       have HD := Hd hd
       clear hd
       have hbig2 : 1048576 < (s : Int) + (z : Int) := by omega
       clear hbig
       go_wp2
       go_ret
       exact ⟨by rw [HD.out]; rfl, rfl⟩
   · have hd : decide (1048576 < zs.sum) = false := by
       have h1 := HS.out
       rw [List.take_of_length_le (by omega)] at h1
       simp; omega
     have HD := Hd hd
     clear hd
     go_wp2
     go_ret
     exact ⟨by rw [HD.out]; rfl, rfl⟩
theorem beyond_of2 (ns : List Nat) (b : Bool) (hl : ns.length ≤ 1000) (hm : ∀ z ∈ ns, z ≤ 4611686018427387904) (hb : b = decide (1048576 < ns.sum)) (u : Value) (V : World) (h : JB ns u V) :
   Calls Tryz.prog 8 #[u] V fun e w' => e = .returned (.bool b) ∧ Below V.heap.size V w' := by
 obtain ⟨g, t, rfl, h2⟩ := h.form
 subst hb
 refine (beyond_big (some ⟨g, 0, none⟩) ns.length ns hl hm V V.heap.size ?_).mono ?_
 · refine ⟨by rw [cellsI_length, Nat.mul_one], fun _ => ⟨_, rfl, h2.lt, fun j u hu => ?_⟩⟩
   rw [show (⟨g, 0, none⟩ : Addr).add j = ⟨g, j, none⟩ by unfold Addr.add; split <;> simp_all, h2.cell j, ← hu]
   simp
 · rintro e w' ⟨rfl, rfl⟩
   exact ⟨rfl, Below.refl _ _⟩

theorem ref02_Checks (l : List FLoc) (ks : FLoc → Bool) (A : Option Addr) (c : Nat) (hl : l.length ≤ 9223372036854775807) (w : World) (h : Zy w w.heap.size 4 A l.length (cellsF l))
   (H : ∀ q ∈ l, ∀ V, Below w.heap.size w V → Calls Tryz.prog 139 #[q.val] V fun e w' => e = .returned (.int .i64 (if ks q then 0 else 1)) ∧ Below V.heap.size V w') :
   Calls Tryz.prog 49 #[.slice A l.length c] w fun e w' => e = .returned (.bool (l.all ks)) ∧ Below w.heap.size w w' := by
 have HR := Hd h
 have HS := Hd H
 clear h H
 have H0 := Hd (by intro j hj; omega : ∀ j (_ : j < 0), (h : j < l.length) → ks l[j] = true)
 go_enter Tryz.func49, Tryz.ntmps49
 go_wp2_with fail
 go_loopw [3] (fun s wr => ∃ i : Nat, s = .int .i64 i ∧ i ≤ l.length ∧ Hid (∀ j (_ : j < i), (h : j < l.length) → ks l[j] = true) ∧ Below w.heap.size w wr) (fun s _ => l.length - (intOf s).toNat)
 case atStart => exact ⟨0, rfl, Nat.zero_le _, H0, Below.refl _ _⟩
 case round =>
   obtain ⟨i, rfl, hi, HN, hb⟩ := hrel
   clear H0
   by_cases hlt : i < l.length
   · have a0 : (0 : Int) ≤ (i : Int) := by omega
     have a1 : (i : Int) < (l.length : Int) := by omega
     obtain ⟨e0, e1, e2, e3⟩ := cellsF_get l i hlt
     obtain ⟨ad, rfl, hbl, c0, c1, c2, c3⟩ := (HR.out.below hb).row4 hlt e0 e1 e2 e3
     have C := HS.out _ (List.getElem_mem hlt)
     unfold FLoc.val at C
     have HB := Hd hb
     clear e0 e1 e2 e3 hbl hb
     by_cases hlong : ks l[i] = true
     · rw [if_pos hlong] at C
       have C := Hd C
       have HL := Hd hlong
       clear hlong
       go_wp2_with (first | (go_at_call 139; with_reducible refine (C.out _ HB.out).mono ?_; rintro e w' ⟨rfl, hb'⟩; have B1 := Zb HB.out hb'))
       go_roundw
       case rel =>
         refine ⟨i + 1, by go_num, hlt, Hd fun j hj h => ?_, B1⟩
         rcases (by omega : j < i ∨ j = i) with hj | rfl
         · exact HN.out j hj h
         · exact HL.out
       case measure => simp [intOf]; omega
     · rw [if_neg hlong] at C
       have C := Hd C
       have HL := Hd hlong
       clear hlong
       go_wp2_with (first | (go_at_call 139; with_reducible refine (C.out _ HB.out).mono ?_; rintro e w' ⟨rfl, hb'⟩; have B1 := Zb HB.out hb'))
       go_ret
       have e : l.all ks = false := List.all_eq_false.2 ⟨l[i], List.getElem_mem hlt, HL.out⟩
       exact ⟨by rw [e]; rfl, B1⟩
   · have HB := Hd hb
     clear hb
     go_wp2_with fail
     go_ret
     have e : l.all ks = true := List.all_eq_true.2 fun x hx => by
       obtain ⟨j, hj, rfl⟩ := List.getElem_of_mem hx
       exact HN.out j (by omega) hj
     exact ⟨by rw [e]; rfl, HB.out⟩

theorem rchecks_new (n1 n2 : Bool) (A B : Option Addr) (c e0 : Nat) (xs ys : List Nat) (V : World) (g' : Nat) (h : Zh V A c xs) (g : Zh V B e0 ys) (hg : V.heap.size = g') :
   Calls Tryz.prog 49 #[.slice (some ⟨g', 0, none⟩) 1 1] (V.alloc (.cells #[.bool n1, .slice A xs.length c, .bool n2, .slice B ys.length e0] 27)) fun e w' => e = .returned (.bool (JH n1 n2 xs ys == 0)) ∧ Below (V.alloc (.cells #[.bool n1, .slice A xs.length c, .bool n2, .slice B ys.length e0] 27)).heap.size (V.alloc (.cells #[.bool n1, .slice A xs.length c, .bool n2, .slice B ys.length e0] 27)) w' := by
 have := ref02_Checks [⟨n1, A, xs.length, c, n2, B, ys.length, e0⟩] (fun _ => JH n1 n2 xs ys == 0) (some ⟨g', 0, none⟩) 1 (by simp) (V.alloc (.cells #[.bool n1, .slice A xs.length c, .bool n2, .slice B ys.length e0] 27))
   (by subst hg; exact (Zy.new1 V 27 4 [.bool n1, .slice A xs.length c, .bool n2, .slice B ys.length e0] rfl).more (by simp))
   (by
     intro q hq W hW
     obtain rfl : q = ⟨n1, A, xs.length, c, n2, B, ys.length, e0⟩ := by simpa using hq
     rw [← chkE_bool]
     exact ref02_Check n1 n2 A B c e0 xs ys W ((h.alloc _).below hW) ((g.alloc _).below hW))
 simpa using this
theorem YN (n s : Int) (d : Int) (A B : Option Addr) (c e0 : Nat) (w : World) (h : Zh w A c (Za n.natAbs)) (hs : s = n.sign) :
   Calls Tryz.prog 140 #[.agg #[.bool (decide (n < 0)), .slice A (Za n.natAbs).length c, .bool (decide (d < 0)), .slice B (Za d.natAbs).length e0]] w fun e w' => e = .returned (.int .i64 s) ∧ Below w.heap.size w w' := by
 have px := Zv.new w (.bool (decide (n < 0))) (.slice A (Za n.natAbs).length c) (.bool (decide (d < 0))) (.slice B (Za d.natAbs).length e0)
 have b0 := (Below.refl w.heap.size w).alloc (Nat.le_refl _) (.cells #[.bool (decide (n < 0)), .slice A (Za n.natAbs).length c, .bool (decide (d < 0)), .slice B (Za d.natAbs).length e0] 27)
 have C := Hd (JL n s A c _ (h.below b0) hs)
 have B0 := Hd b0
 obtain ⟨-, x0, x1, x2, x3, -, -, -, -⟩ := px.facts
 clear h hs px b0
 go_enter Tryz.func140, Tryz.ntmps140
 go_wp2_with fail
 refine C.out.mono ?_
 rintro e w1 ⟨rfl, hb⟩
 have HF := Hd (Zb B0.out hb)
 clear x0 x1 x2 x3 hb
 go_wp2_with fail
 go_ret
 exact ⟨rfl, HF.out⟩
end Go.Proofs.YtipmkkobdbgphaaGreatDoor
