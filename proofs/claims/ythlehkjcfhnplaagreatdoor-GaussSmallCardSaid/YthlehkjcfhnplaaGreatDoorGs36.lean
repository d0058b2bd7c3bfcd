/- Several texts in one: BookG, RowsG. -/
import Derived.Test.YthlehkjcfhnplaaGreatDoorGs35
import Derived.Test.YthlehkjcfhnplaaGreatDoorGsHd
import Derived.Test.YthlehkjcfhnplaaGreatDoorGs30
set_option maxRecDepth 100000
set_option maxHeartbeats 8000000
/- Book.Gauss of the laws: the four rows of a number stand in the book. -/
namespace Go.Proofs.YthlehkjcfhnplaaGreatDoor
open Go.RowKit

theorem book_Gauss (b m : Nat) (l : Nat → Value) (lims : Value) (n1 n2 n3 n4 : Bool) (A B C D : Option Addr) (an ac bn bc cn cc dn dc : Nat) (hm : m + 3 ≤ 1000) (w : World) (h : Keep w b m l lims) :
    Calls Tryz.prog 15 #[.pointer (some ⟨b, 0, none⟩), .agg #[.bool n1, .slice A an ac, .bool n2, .slice B bn bc, .bool n3, .slice C cn cc, .bool n4, .slice D dn dc]] w fun e w' => e = .returned (.tuple #[]) ∧ ∃ lims', Keep w' b (m + 4) (updV (updV (updV (updV l m (.slice A an ac)) (m + 1) (.slice B bn bc)) (m + 2) (.slice C cn cc)) (m + 3) (.slice D dn dc)) lims' ∧ Below b w w' ∧ Far b w w' := by
  have hlt := h.book.lt
  have px := Oct.new w 28 (.bool n1) (.slice A an ac) (.bool n2) (.slice B bn bc) (.bool n3) (.slice C cn cc) (.bool n4) (.slice D dn dc)
  have hb := Hd (((Below.refl w.heap.size w).alloc (Nat.le_refl _) (.cells #[.bool n1, .slice A an ac, .bool n2, .slice B bn bc, .bool n3, .slice C cn cc, .bool n4, .slice D dn dc] 28)).mono (Nat.le_of_lt hlt))
  have C1 := Hd (book_Frac_all b m l lims n1 n2 A B an ac bn bc (by omega) _ (h.below ((Below.refl _ _).alloc (Nat.le_refl _) (.cells #[.bool n1, .slice A an ac, .bool n2, .slice B bn bc, .bool n3, .slice C cn cc, .bool n4, .slice D dn dc] 28))))
  have hfa := Hd (Far.of_below (b := b) ((Below.refl w.heap.size w).alloc (Nat.le_refl _) (.cells #[.bool n1, .slice A an ac, .bool n2, .slice B bn bc, .bool n3, .slice C cn cc, .bool n4, .slice D dn dc] 28)))
  have hne : w.heap.size ≠ b := by omega
  have PX := Hd px
  clear h px
  obtain ⟨-, x0, x1, x2, x3, x4, x5, x6, x7⟩ := PX.out.facts
  go_enter Tryz.func15, Tryz.ntmps15
  go_wp2_with fail
  refine C1.out.mono ?_
  rintro e w1 ⟨rfl, lims1, hk, hb1, hxf⟩
  have hx := hxf.blk _ _ _ (by decide) hne PX.out.blk
  have HFA := Hd (hfa.out.trans hxf)
  have C2 := Hd (book_Frac_all b (m + 2) (updV (updV l m (.slice A an ac)) (m + 1) (.slice B bn bc)) lims1 n3 n4 C D cn cc dn dc (by omega) w1 hk)
  obtain ⟨-, y0, y1, y2, y3, y4, y5, y6, y7⟩ := (Oct.mk hx).facts
  have HB := Hd (hb.out.trans hb1)
  clear C1 hb hk hb1 hx hxf hfa hne x0 x1 x2 x3 x4 x5 x6 x7
  go_wp2_with fail
  refine C2.out.mono ?_
  rintro e w2 ⟨rfl, lims2, hk2, hb2, hx2⟩
  have HF := Hd (⟨lims2, hk2, HB.out.trans hb2, HFA.out.trans hx2⟩ : ∃ lims', Keep w2 b (m + 4) (updV (updV (updV (updV l m (.slice A an ac)) (m + 1) (.slice B bn bc)) (m + 2) (.slice C cn cc)) (m + 3) (.slice D dn dc)) lims' ∧ Below b w w2 ∧ Far b w w2)
  clear C2 HB HFA hk2 hb2 hx2 y0 y1 y2 y3 y4 y5 y6 y7
  go_wp2_with fail
  exact bodyPost_end (v := .tuple #[]) (by simp [results, Tryz.results15, go_sem]) rfl ⟨rfl, HF.out⟩
theorem rows_upd4 (rs : List Value) (a b c d : Value) (j : Nat) (hj : j < (rs ++ [a, b, c, d]).length) : updV (updV (updV (updV (fun j => rs.getD j nilS) rs.length a) (rs.length + 1) b) (rs.length + 2) c) (rs.length + 3) d j = (rs ++ [a, b, c, d]).getD j nilS := by
  rw [List.length_append] at hj
  simp at hj
  rcases (by omega : j < rs.length ∨ j = rs.length ∨ j = rs.length + 1 ∨ j = rs.length + 2 ∨ j = rs.length + 3) with h | rfl | rfl | rfl | rfl
  · rw [updV_ne _ _ (by omega), updV_ne _ _ (by omega), updV_ne _ _ (by omega), updV_ne _ _ (by omega)]
    simp [List.getD, List.getElem?_append_left h]
  · rw [updV_ne _ _ (by omega), updV_ne _ _ (by omega), updV_ne _ _ (by omega), updV_same]
    simp [List.getD]
  · rw [updV_ne _ _ (by omega), updV_ne _ _ (by omega), updV_same]
    simp [List.getD]
  · rw [updV_ne _ _ (by omega), updV_same]
    simp [List.getD]
  · rw [updV_same]
    simp [List.getD]
structure Kept (w : World) (b : Nat) (rs : List Value) : Prop where
  form : ∃ lims, Keep w b rs.length (fun j => rs.getD j nilS) lims
theorem Kept.book {w : World} {b : Nat} {rs : List Value} (h : Kept w b rs) : ∃ cs, Blk w b tBook cs := by
  obtain ⟨lims, k⟩ := h.form
  exact ⟨_, k.book⟩
theorem Kept.below {w w' : World} {b : Nat} {rs : List Value} (h : Kept w b rs) (hb : Below w.heap.size w w') : Kept w' b rs := by
  obtain ⟨lims, k⟩ := h.form
  exact ⟨lims, k.below hb⟩
theorem keep_gauss (b : Nat) (rs : List Value) (n1 n2 n3 n4 : Bool) (A B C D : Option Addr) (an ac bn bc cn cc dn dc : Nat) (hm : rs.length + 3 ≤ 1000) (w : World) (h : Kept w b rs) :
    Calls Tryz.prog 15 #[.pointer (some ⟨b, 0, none⟩), .agg #[.bool n1, .slice A an ac, .bool n2, .slice B bn bc, .bool n3, .slice C cn cc, .bool n4, .slice D dn dc]] w fun e w' => e = .returned (.tuple #[]) ∧ Kept w' b (rs ++ [.slice A an ac, .slice B bn bc, .slice C cn cc, .slice D dn dc]) ∧ Below b w w' ∧ Far b w w' := by
  obtain ⟨lims, k⟩ := h.form
  refine (book_Gauss b rs.length _ lims n1 n2 n3 n4 A B C D an ac bn bc cn cc dn dc hm w k).mono ?_
  rintro e w' ⟨rfl, lims', hk, hb, hf⟩
  refine ⟨rfl, ⟨lims', ?_⟩, hb, hf⟩
  rw [List.length_append]
  exact hk.cong fun j hj => rows_upd4 rs _ _ _ _ j (by rw [List.length_append]; exact hj)
theorem kept_apart (b B0 : Nat) (vs : List Value) (w0 w : World) (hne : vs ≠ []) (hlen : vs.length ≤ 1000) (hk : Kept w b vs) (hr : RowsFree w B0 vs) (hB : B0 ≤ b) (hl : Below B0 w0 w) :
    Calls Tryz.prog 16 #[.pointer (some ⟨b, 0, none⟩)] w fun e w' => e = .returned (.bool true) ∧ Below B0 w0 w' := by
  obtain ⟨lims, k⟩ := hk.form
  exact apart_free b B0 vs lims w0 w hne hlen k hr hB hl
/- Rows of limbs of structs of two fractions, for the Book. -/

theorem own_base {w : World} {lo b n size : Nat} {e : TypeId} {v : Value} {X : List Value} (hlo : lo ≤ b) (h : w.ownsRow b e size v n X) : w.ownsRow lo e size v n X := by
  refine ⟨h.1, ?_⟩
  rcases h.2 with h5 | ⟨g, cap, cur, k1, k2, k3⟩
  · exact .inl h5
  · exact .inr ⟨g, cap, cur, k1, Nat.le_trans hlo k2, k3⟩
theorem RowsFree.app {w0 w : World} {lo : Nat} {vs us : List Value} (h : RowsFree w lo vs) (h0 : RowsFree w0 lo vs) (hlo : lo ≤ w0.heap.size) (hu : RowsFree w w0.heap.size us) : RowsFree w lo (vs ++ us) := by
  have e0 : ∀ j, j < vs.length → (vs ++ us).getD j nilS = vs.getD j nilS := fun j hj => by
    simp [List.getD, List.getElem?_append_left hj]
  have e1 : ∀ j, vs.length ≤ j → (vs ++ us).getD j nilS = us.getD (j - vs.length) nilS := fun j hj => by
    simp [List.getD, List.getElem?_append_right hj]
  have old : ∀ j, j < vs.length → ∀ g, (vs.getD j nilS).ownBlock = some g → g < w0.heap.size := fun j hj g hg => by
    obtain ⟨n, X, a1, a2⟩ := h0.row j hj
    exact (a2.lt g hg).2
  refine ⟨fun j hj => ?_, fun j k hjk hk g hg => ?_⟩
  · rw [List.length_append] at hj
    rcases Nat.lt_or_ge j vs.length with hl | hl
    · rw [e0 j hl]; exact h.row j hl
    · rw [e1 j hl]
      obtain ⟨n, X, a1, a2⟩ := hu.row (j - vs.length) (by omega)
      exact ⟨n, X, a1, own_base hlo a2⟩
  · rw [List.length_append] at hk
    rcases Nat.lt_or_ge k vs.length with hl | hl
    · rw [e0 k hl]; rw [e0 j (by omega)] at hg; exact h.apart j k hjk hl g hg
    · rw [e1 k hl]
      rcases Nat.lt_or_ge j vs.length with hl2 | hl2
      · rw [e0 j hl2] at hg
        intro h9
        have b1 := old j hl2 g hg
        obtain ⟨n, X, a1, a2⟩ := hu.row (k - vs.length) (by omega)
        have b2 := (a2.lt g h9).1
        omega
      · rw [e1 j hl2] at hg
        exact hu.apart (j - vs.length) (k - vs.length) (by omega) (by omega) g hg
theorem RowsFree.two {w : World} {lo n1 n2 : Nat} {v1 v2 : Value} {X1 X2 : List Value} (hn1 : n1 ≤ 1073741824) (hn2 : n2 ≤ 1073741824) (h1 : w.ownsRow lo tLimb 1 v1 n1 X1) (h2 : w.ownsRow lo tLimb 1 v2 n2 X2) (hne : ∀ g, v1.ownBlock = some g → v2.ownBlock ≠ some g) : RowsFree w lo [v1, v2] := by
  refine ⟨fun j hj => ?_, fun j k hjk hk g hg => ?_⟩
  · simp at hj
    rcases (by omega : j = 0 ∨ j = 1) with rfl | rfl
    · exact ⟨n1, X1, hn1, h1⟩
    · exact ⟨n2, X2, hn2, h2⟩
  · simp at hk
    obtain rfl : j = 0 := by omega
    obtain rfl : k = 1 := by omega
    exact hne g hg
theorem RowsFree.both {w : World} {lo : Nat} {vs us : List Value} (h : RowsFree w lo vs) (k : RowsFree w lo us) (hne : ∀ i j, i < vs.length → j < us.length → ∀ g, (vs.getD i nilS).ownBlock = some g → (us.getD j nilS).ownBlock ≠ some g) : RowsFree w lo (vs ++ us) := by
  have e0 : ∀ j, j < vs.length → (vs ++ us).getD j nilS = vs.getD j nilS := fun j hj => by
    simp [List.getD, List.getElem?_append_left hj]
  have e1 : ∀ j, vs.length ≤ j → (vs ++ us).getD j nilS = us.getD (j - vs.length) nilS := fun j hj => by
    simp [List.getD, List.getElem?_append_right hj]
  refine ⟨fun j hj => ?_, fun i j hij hj g hg => ?_⟩
  · rw [List.length_append] at hj
    rcases Nat.lt_or_ge j vs.length with hl | hl
    · rw [e0 j hl]; exact h.row j hl
    · rw [e1 j hl]; exact k.row (j - vs.length) (by omega)
  · rw [List.length_append] at hj
    rcases Nat.lt_or_ge j vs.length with hl | hl
    · rw [e0 j hl]; rw [e0 i (by omega)] at hg; exact h.apart i j hij hl g hg
    · rw [e1 j hl]
      rcases Nat.lt_or_ge i vs.length with hl2 | hl2
      · rw [e0 i hl2] at hg; exact hne i (j - vs.length) hl2 (by omega) g hg
      · rw [e1 i hl2] at hg; exact k.apart (i - vs.length) (j - vs.length) (by omega) (by omega) g hg
theorem FracOwn.free {w : World} {lo c e : Nat} {n d : Int} {A B : Option Addr} (h : FracOwn w lo (.agg #[.bool (decide (n < 0)), .slice A (natL n.natAbs).length c, .bool (decide (d < 0)), .slice B (natL d.natAbs).length e]) n d) (hn : lz n ≤ 1073741824) (hd : lz d ≤ 1073741824) :
    RowsFree w lo [.slice A (natL n.natAbs).length c, .slice B (natL d.natAbs).length e] := by
  obtain ⟨⟨X, r1⟩, ⟨Y, r2⟩, h4⟩ := h.rows
  exact .two hn hd r1 r2 h4
theorem GaussOwn.free {w : World} {lo c1 c2 c3 c4 : Nat} {n d m f : Int} {A1 A2 A3 A4 : Option Addr} (h : GaussOwn w lo (.agg #[.bool (decide (n < 0)), .slice A1 (natL n.natAbs).length c1, .bool (decide (d < 0)), .slice A2 (natL d.natAbs).length c2, .bool (decide (m < 0)), .slice A3 (natL m.natAbs).length c3, .bool (decide (f < 0)), .slice A4 (natL f.natAbs).length c4]) n d m f)
    (hn : lz n ≤ 1073741824) (hd : lz d ≤ 1073741824) (hm : lz m ≤ 1073741824) (hf : lz f ≤ 1073741824) :
    RowsFree w lo [.slice A1 (natL n.natAbs).length c1, .slice A2 (natL d.natAbs).length c2, .slice A3 (natL m.natAbs).length c3, .slice A4 (natL f.natAbs).length c4] := by
  obtain ⟨B1, k1, B2, k2, B3, k3, B4, k4, h1, h2, h3, h4⟩ := h.form
  simp only [Value.agg.injEq, Array.mk.injEq, List.cons.injEq, Value.slice.injEq, and_true, true_and] at h1
  obtain ⟨⟨rfl, rfl⟩, ⟨rfl, rfl⟩, ⟨rfl, rfl⟩, rfl, rfl⟩ := h1
  refine RowsFree.both (h2.free hn hd) (h3.free hm hf) fun i j hi hj g hg hg2 => ?_
  simp at hi hj
  refine h4 g (blkFrac.of ?_) (blkFrac.of ?_)
  · rcases (by omega : i = 0 ∨ i = 1) with rfl | rfl
    · exact .inl hg
    · exact .inr hg
  · rcases (by omega : j = 0 ∨ j = 1) with rfl | rfl
    · exact .inl hg2
    · exact .inr hg2
theorem RowsFree.perm {w : World} {lo : Nat} {vs us : List Value} (h : RowsFree w lo vs) (p : vs.Perm us) : RowsFree w lo us := by
  have e : ∀ (l : List Value) (j : Nat) (hj : j < l.length), l.getD j nilS = l[j] := fun l j hj => by simp [List.getD, List.getElem?_eq_getElem hj]
  have hp : vs.Pairwise (fun a b : Value => ∀ g, a.ownBlock = some g → b.ownBlock ≠ some g) := by
    rw [List.pairwise_iff_getElem]
    intro i j hi hj hij
    have := h.apart i j hij hj
    rw [e vs i hi, e vs j hj] at this
    exact this
  have hq := (p.pairwise_iff (fun {a b} (k : ∀ g, a.ownBlock = some g → b.ownBlock ≠ some g) g hb ha => k g ha hb)).1 hp
  rw [List.pairwise_iff_getElem] at hq
  refine ⟨fun j hj => ?_, fun j k hjk hk g hg => ?_⟩
  · rw [e us j hj]
    obtain ⟨i, hi, hv⟩ := List.getElem_of_mem (p.symm.subset (List.getElem_mem hj))
    have := h.row i hi
    rw [e vs i hi, hv] at this
    exact this
  · rw [e us j (by omega)] at hg
    rw [e us k hk]
    exact hq j k (by omega) hk hjk g hg
theorem RowsFree.ins {w0 w : World} {lo : Nat} (xs us ys : List Value) (h : RowsFree w lo (xs ++ ys)) (h0 : RowsFree w0 lo (xs ++ ys)) (hlo : lo ≤ w0.heap.size) (hu : RowsFree w w0.heap.size us) : RowsFree w lo (xs ++ (us ++ ys)) :=
  (h.app h0 hlo hu).perm (by rw [List.append_assoc]; exact List.Perm.append_left xs List.perm_append_comm)
theorem RowsFree.base {w : World} {lo b : Nat} {vs : List Value} (h : RowsFree w b vs) (hlo : lo ≤ b) : RowsFree w lo vs :=
  ⟨fun j hj => by obtain ⟨n, X, a1, a2⟩ := h.row j hj; exact ⟨n, X, a1, own_base hlo a2⟩, h.apart⟩
end Go.Proofs.YthlehkjcfhnplaaGreatDoor
