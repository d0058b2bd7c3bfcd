/- Several texts in one: BookFree, RowsG, ReckLaw, BookG. -/
import Derived.Test.YtdonecnhdkjniaaGreatDoorGx32
set_option maxRecDepth 100000
set_option maxHeartbeats 8000000
namespace Go.Proofs.YtdonecnhdkjniaaGreatDoor
open Go.RowKit

structure ZC (w : World) (lo : Nat) (vs : List Value) : Prop where
 row : ∀ j, j < vs.length -> ∃ n X, n <= 1073741824 /\ w.ownsRow lo XI 1 (vs.getD j ZG) n X
 apart : ∀ j k, j < k -> k < vs.length -> ∀ g, (vs.getD j ZG).ownBlock = some g -> (vs.getD k ZG).ownBlock ≠ some g
theorem ZC.nil (w : World) (lo : Nat) : ZC w lo [] := ⟨fun j hj => by simp at hj, fun j k _ hk => by simp at hk⟩
theorem ZC.below {w w' : World} {lo : Nat} {vs : List Value} (h : ZC w lo vs) (hb : Below w.heap.size w w') : ZC w' lo vs :=
 ⟨fun j hj => by obtain ⟨n, X, a1, a2⟩ := h.row j hj; exact ⟨n, X, a1, Zt a2 hb⟩, h.apart⟩
structure Far (b : Nat) (w V : World) : Prop where
 blk : ∀ g T cs, T ≠ Xf -> g ≠ b -> ZJ w g T cs -> ZJ V g T cs
theorem Far.refl (b : Nat) (w : World) : Far b w w := ⟨fun _ _ _ _ _ h => h⟩
theorem Far.trans {b : Nat} {w V X : World} (h : Far b w V) (k : Far b V X) : Far b w X := ⟨fun g T cs hT hg hb => k.blk g T cs hT hg (h.blk g T cs hT hg hb)⟩
theorem Far.of_below {b : Nat} {w V : World} (h : Below w.heap.size w V) : Far b w V := ⟨fun _ _ _ _ _ hb => hb.below h hb.lt⟩
theorem Far.below {b : Nat} {w V X : World} (h : Far b w V) (k : Below V.heap.size V X) : Far b w X := h.trans (.of_below k)
theorem Far.set {b : Nat} {w V : World} (h : Far b w V) (k : Nat) (u : Value) : Far b w (V.setCell ⟨b, k, none⟩ u) := ⟨fun g T cs hT hg hb => by
 have := h.blk g T cs hT hg hb
 unfold ZJ at this ⊢
 rw [Below.heap_setCell _ ⟨b, k, none⟩ _ g hg]
 exact this⟩
theorem Far.grown {b : Nat} {w V X : World} (h : Far b w V) {base size n : Nat} {v : Value} {xs : List Value} (ho : V.ownsRow base Xf size v n xs) (hg : V.grownBy X v.ownBlock) : Far b w X := ⟨fun g T cs hT hgb hb =>
 (h.blk g T cs hT hgb hb).grown hg (Ne.symm (Xb ho (h.blk g T cs hT hgb hb) hT.symm))⟩
theorem apart_free (b B0 : Nat) (vs : List Value) (lims : Value) (w0 w : World) (hne : vs ≠ []) (hlen : vs.length <= 1000) (hk : JC w b vs.length (fun j => vs.getD j ZG) lims) (hr : ZC w B0 vs) (hB : B0 <= b) (hl : Below B0 w0 w) :
   Calls Tryz.prog 15 #[.pointer (some ⟨b, 0, none⟩)] w fun e w' => e = .returned (.bool true) /\ Below B0 w0 w' := by
 have hpos : 0 < vs.length := List.length_pos_iff.2 hne
 have hrow := hk.row
 rcases hrow.2 with ⟨-, h2⟩ | ⟨g0, cap, cur, h1, h2, h3, h4, h5, h6, h7⟩
 . omega
 . subst h1
   have hn : ∀ j, j < vs.length -> ∃ X, w.ownsRow B0 XI 1 (vs.getD j ZG) (lenOf (vs.getD j ZG)) X /\ lenOf (vs.getD j ZG) <= 1073741824 := fun j hj => by
     obtain ⟨n, X, a1, a2⟩ := hr.row j hj
     obtain ⟨A, c, hv⟩ := Xh (by omega) a2
     have : lenOf (vs.getD j ZG) = n := by rw [hv]; rfl
     rw [this]; exact ⟨X, a2, a1⟩
   let X : Nat -> List Value := fun j => if h : j < vs.length then Classical.choose (hn j h) else []
   have hX : ∀ j, j < vs.length -> w.ownsRow B0 XI 1 (vs.getD j ZG) (lenOf (vs.getD j ZG)) (X j) := fun j hj => by
     show w.ownsRow B0 XI 1 (vs.getD j ZG) (lenOf (vs.getD j ZG)) (if h : j < vs.length then Classical.choose (hn j h) else [])
     rw [dif_pos hj]; exact (Classical.choose_spec (hn j hj)).1
   have hcells : ∀ j, cur[j]? = if j < vs.length * 3 then (Z1 (fun j => vs.getD j ZG) vs.length)[j]? else cur[j]? := fun j => by
     split
     . rename_i h
       rw [<- h7, List.getElem?_take, if_pos h]; simp
     . rfl
   refine apart_true b g0 cap vs.length B0 (fun j => vs.getD j ZG) (fun j => lenOf (vs.getD j ZG)) X w0 w ⟨hB, by omega, hlen, fun j hj => (Classical.choose_spec (hn j hj)).2, fun j hj => ?_, fun j k hj hk hjk => ?_⟩ ⟨hk.book, ⟨cur, h3, fun j hj => ?_⟩, hX, hl⟩
   . obtain ⟨n, X, a1, a2⟩ := hr.row j hj
     have e1 := Xb a2 hk.book (by decide)
     have e2 := Xb a2 h3 (by decide)
     exact fun g hg => ⟨fun e => e1 (by rw [hg, e]), fun e => e2 (by rw [hg, e])⟩
   . intro g hg hg2
     rcases Nat.lt_or_ge j k with h | h
     . exact hr.apart j k h hk g hg hg2
     . exact hr.apart k j (by omega) hj g hg2 hg
   . obtain ⟨a1, a2, a3⟩ := heldCells_at (fun j => vs.getD j ZG) vs.length j hj
     rw [hcells, if_pos (by omega), hcells (j * 3 + 1), if_pos (by omega), hcells (j * 3 + 2), if_pos (by omega)]
     exact ⟨a1, a2, a3⟩
theorem keep_all (b m : Nat) (l : Nat -> Value) (lims : Value) (vA : Option Addr) (vn vc : Nat) (hm : m <= 1000) (w : World) (h : JC w b m l lims) :
   Calls Tryz.prog 194 #[.pointer (some ⟨b, 0, none⟩), .slice vA vn vc] w fun e w' => e = .returned (.tuple #[]) /\ ∃ lims', JC w' b (m + 1) (Xv l m (.slice vA vn vc)) lims' /\ Below b w w' /\ Far b w w' := by
 obtain ⟨i0, hi, hz0, hz1, hz2⟩ := info_parts heldInfo
 have hb := h.book
 have hrow := h.row
 have hlt := hb.lt
 have c0 := hb.cell 0
 have f0 := hb.frozen 0
 simp at c0
 have hadd : IntKind.i64.wrap ((m : Int) + 1) = ((m + 1 : Nat) : Int) := by rw [IntWalk.i64_in _ (by omega)]; omega
 clear h
 have HB := Hd hb
 have HR := Hd hrow
 clear hb hrow
 go_enter Tryz.func194, Tryz.ntmps194
 go_wp2_with fail
 have hW : ZJ (w.setCell ⟨b, 0, none⟩ (.int .i64 ((m : Int) + 1))) b Z2 #[.int .i64 ((m : Int) + 1), lims, ZG, ZG, ZG, ZG, ZG, ZG, ZG, ZG, ZG, ZG, ZG, ZG, ZG, ZG, ZG] := HB.out.set_ 0 _
 have hrW := ownsRow_setCell_below HR.out (a := ⟨b, 0, none⟩) (Nat.lt_succ_self b) (.int .i64 ((m : Int) + 1))
 have hbW : Below b w (w.setCell ⟨b, 0, none⟩ (.int .i64 ((m : Int) + 1))) := (Below.refl b w).setCell (p := ⟨b, 0, none⟩) (Nat.le_refl _) _
 have hgW : Far b w (w.setCell ⟨b, 0, none⟩ (.int .i64 ((m : Int) + 1))) := (Far.refl b w).set 0 _
 obtain ⟨W, E⟩ : ∃ W, W = w.setCell ⟨b, 0, none⟩ (.int .i64 ((m : Int) + 1)) := ⟨_, rfl⟩
 rw [<- E] at hW hrW hbW hgW ⊢
 clear E HB HR c0 f0
 have hltW := hW.lt
 have HW := Hd hW
 have HR := Hd hrW
 have HB := Hd hbW
 have HG := Hd hgW
 clear hW hrW hbW hgW hadd
 refine Kd [.val (.pointer (some ⟨b, 0, none⟩)), .val (.pointer (some ⟨b, 0, none⟩)), .val (.pointer (some ⟨b, 0, none⟩)), .val (.pointer (some ⟨b, 1, none⟩)), .val lims, .val (.slice vA vn vc), .val (.pointer (some ⟨b, 0, none⟩)), .val (.pointer (some ⟨b, 0, none⟩)), .val (.pointer (some ⟨b, 0, none⟩)), .val (.int .i64 ((m : Int) + 1)), .val (.agg #[.slice vA vn vc, ZG, .int .i64 ((m : Int) + 1)]), .step, .step, .step, .step, .step] 4 5 (b + 1) W (by omega)
   (fun us V => match us with
     | [] => V.ownsRow (b + 1) Xf 3 lims m (Z1 l m) /\ Far b w V
     | [u0] => V.ownsRow (b + 1) Xf 3 lims m (Z1 l m) /\ Far b w V /\ ∃ g, u0 = .slice (some ⟨g, 0, none⟩) 1 1 /\ ZD V V.heap.size 3 (some ⟨g, 0, none⟩) 1 [.slice vA vn vc, ZG, .int .i64 ((m : Int) + 1)]
     | [_, u1] => V.ownsRow (b + 1) Xf 3 u1 (m + 1) (Z1 (Xv l m (.slice vA vn vc)) (m + 1)) /\ Far b w V
     | [_, u1, u2] => u2 = .pointer (some ⟨b, 0, none⟩) /\ V.ownsRow (b + 1) Xf 3 u1 (m + 1) (Z1 (Xv l m (.slice vA vn vc)) (m + 1)) /\ Far b w V
     | [_, u1, _, u3] => u3 = .pointer (some ⟨b, 1, none⟩) /\ V.ownsRow (b + 1) Xf 3 u1 (m + 1) (Z1 (Xv l m (.slice vA vn vc)) (m + 1)) /\ Far b w V
     | _ => False)
   (fun _ V => ∃ lims', JC V b (m + 1) (Xv l m (.slice vA vn vc)) lims' /\ Below b w V /\ Far b w V)
   _ Zf ?_ ?_ ?_ ?_ ?_ ?_ ?_ ?_ ?_ rfl ?_ (Below.refl _ _) ⟨HR.out.drew, HG.out.below (Below.refl _ _).drew⟩ ?_ ?_ ?_
 iterate 9 kernel_rfl
 . intro us V V' hg hb
   match us, hg with
   | [], hg => exact ⟨Zt hg.1 hb, hg.2.below hb⟩
   | [u0], ⟨h1, h0, g, h2, h3⟩ => exact ⟨Zt h1 hb, h0.below hb, g, h2, (h3.below hb).more hb.size⟩
   | [_, u1], hg => exact ⟨Zt hg.1 hb, hg.2.below hb⟩
   | [_, u1, u2], hg => exact ⟨hg.1, Zt hg.2.1 hb, hg.2.2.below hb⟩
   | [_, u1, u2, u3], hg => exact ⟨hg.1, Zt hg.2.1 hb, hg.2.2.below hb⟩
 . simp [XD, ZO, ZF, Zn, Yc]
   repeat' apply And.intro
   all_goals
     intro V hV
     have hx := HW.out.below hV (Nat.lt_succ_self b)
     have c0 := hx.cell 0
     have c1 := hx.cell 1
     simp at c0 c1
     clear hV hx
     go_simp
     try exact Below.refl _ _
 . simp [Y1, ZO, ZF, Zn, Yc, Yp, List.filter, Ks.isStep]
   refine ⟨fun V hV hr hx0 => ?_, fun u0 => ⟨fun V hV hr hx0 g hu hrd => ?_, fun u1 => ⟨fun V hV hr hx0 => ?_, fun u2 => ⟨fun V hV hu2 hr hx0 => ?_, fun u3 V hV hu3 hr hx0 => ?_⟩⟩⟩⟩
   . go_simp
     exact ⟨hV.alloc (by have := hV.size; omega) _, Zt hr ((Below.refl _ _).alloc (Nat.le_refl _) _), hx0.below ((Below.refl _ _).alloc (Nat.le_refl _) _), ZD.new1 V _ 3 _ rfl⟩
   . subst hu
     have hsz := hV.size
     refine wp_append_any V (.tmp 15) (.tmp 22) _ rfl (b + 1) Xf i0 _ 3 56 Tryz.underlying38 hi hz0 hz1 hz2 rfl (by omega) lims m (Z1 l m) rfl hr V.heap.size (some ⟨g, 0, none⟩) 1 1 [.slice vA vn vc, ZG, .int .i64 ((m : Int) + 1)] rfl hrd (by simp [Value.oneCell']) (by unfold maxLen; omega) (by omega) (by omega) ?_
     intro v' w' ho hg hat
     refine ⟨v', rfl, hV.grown hg (by omega) (fun k hk => (hr.lt k hk).1), ?_⟩
     rw [heldCells_more, show ((m + 1 : Nat) : Int) = (m : Int) + 1 by omega]
     exact ⟨ho, hx0.grown hr hg⟩
   . go_simp
     try exact ⟨hV, hr, hx0⟩
   . subst hu2
     go_simp
     try exact ⟨hV, hr, hx0⟩
   . subst hu3
     obtain ⟨A1, k1, rfl⟩ := Xh (by omega) hr
     have hx := HW.out.below hV (Nat.lt_succ_self b)
     have c1 := hx.cell 1
     have f1 := hx.frozen 1
     simp at c1
     go_simp
     refine ⟨⟨.slice A1 (m + 1) k1, ?_, ?_⟩, (HB.out.trans (hV.mono (Nat.le_succ b))).setCell (p := ⟨b, 1, none⟩) (Nat.le_refl _) _, hx0.set 1 _⟩
     . have := hx.set_ 1 (.slice A1 (m + 1) k1)
       exact this
     . exact ownsRow_setCell_below hr (a := ⟨b, 1, none⟩) (Nat.lt_succ_self b) _
 . intro us V hus hF
   simp only [show ¬ (5 <= 4) by decide, if_false] at hF
   have HF := Hd hF
   obtain ⟨u0, u1, u2, u3, u4, rfl⟩ : ∃ u0 u1 u2 u3 u4, us = [u0, u1, u2, u3, u4] := by
     match us, hus with
     | [u0, u1, u2, u3, u4], _ => exact ⟨u0, u1, u2, u3, u4, rfl⟩
   simp [ZO, ZF, Zn, Yc, Yp, List.filter, Ks.isStep]
   clear hF HW HR HB HG
   go_wp2_with fail
   exact bodyPost_end (v := .tuple #[]) (by simp [results, Tryz.results194, go_sem]) rfl ⟨rfl, HF.out⟩

theorem book_Int_all (b m : Nat) (l : Nat -> Value) (lims : Value) (neg : Bool) (vA : Option Addr) (vn vc : Nat) (hm : m <= 1000) (w : World) (h : JC w b m l lims) :
  Calls Tryz.prog 121 #[.pointer (some ⟨b, 0, none⟩), .agg #[.bool neg, .slice vA vn vc]] w fun e w' => e = .returned (.tuple #[]) /\ ∃ lims', JC w' b (m + 1) (Xv l m (.slice vA vn vc)) lims' /\ Below b w w' /\ Far b w w' := by
 have hlt := h.book.lt
 have C := Hd (keep_all b m l lims vA vn vc hm _ (h.below ((Below.refl _ _).alloc (Nat.le_refl _) (.cells #[.bool neg, .slice vA vn vc] 24))))
 have hfa := Hd (Far.of_below (b := b) ((Below.refl w.heap.size w).alloc (Nat.le_refl _) (.cells #[.bool neg, .slice vA vn vc] 24)))
 have hb := Hd (((Below.refl w.heap.size w).alloc (Nat.le_refl _) (.cells #[.bool neg, .slice vA vn vc] 24)).mono (Nat.le_of_lt hlt))
 clear h
 go_enter Tryz.func121, Tryz.ntmps121
 go_wp2_with fail
 refine C.out.mono ?_
 rintro e w' ⟨rfl, lims', hk, hb2, hx⟩
 have HF := Hd (⟨lims', hk, hb.out.trans hb2, hfa.out.trans hx⟩ : ∃ lims', JC w' b (m + 1) (Xv l m (.slice vA vn vc)) lims' /\ Below b w w' /\ Far b w w')
 clear C hb hk hb2 hx hfa
 go_wp2_with fail
 exact bodyPost_end (v := .tuple #[]) (by simp [results, Tryz.results121, go_sem]) rfl ⟨rfl, HF.out⟩
theorem book_Frac_all (b m : Nat) (l : Nat -> Value) (lims : Value) (n1 n2 : Bool) (A B : Option Addr) (an ac bn bc : Nat) (hm : m + 1 <= 1000) (w : World) (h : JC w b m l lims) :
  Calls Tryz.prog 37 #[.pointer (some ⟨b, 0, none⟩), .agg #[.bool n1, .slice A an ac, .bool n2, .slice B bn bc]] w fun e w' => e = .returned (.tuple #[]) /\ ∃ lims', JC w' b (m + 2) (Xv (Xv l m (.slice A an ac)) (m + 1) (.slice B bn bc)) lims' /\ Below b w w' /\ Far b w w' := by
 have hlt := h.book.lt
 have px := Zz.new w (.bool n1) (.slice A an ac) (.bool n2) (.slice B bn bc)
 have hb := Hd (((Below.refl w.heap.size w).alloc (Nat.le_refl _) (.cells #[.bool n1, .slice A an ac, .bool n2, .slice B bn bc] 26)).mono (Nat.le_of_lt hlt))
 have C1 := Hd (book_Int_all b m l lims n1 A an ac (by omega) _ (h.below ((Below.refl _ _).alloc (Nat.le_refl _) (.cells #[.bool n1, .slice A an ac, .bool n2, .slice B bn bc] 26))))
 have hfa := Hd (Far.of_below (b := b) ((Below.refl w.heap.size w).alloc (Nat.le_refl _) (.cells #[.bool n1, .slice A an ac, .bool n2, .slice B bn bc] 26)))
 have hne : w.heap.size ≠ b := by omega
 have PX := Hd px
 clear h px
 obtain ⟨-, x0, x1, x2, x3, -, -, -, -⟩ := PX.out.facts
 go_enter Tryz.func37, Tryz.ntmps37
 go_wp2_with fail
 refine C1.out.mono ?_
 rintro e w1 ⟨rfl, lims1, hk, hb1, hxf⟩
 have hx := hxf.blk _ _ _ (by decide) hne PX.out.blk
 have HFA := Hd (hfa.out.trans hxf)
 have C2 := Hd (book_Int_all b (m + 1) (Xv l m (.slice A an ac)) lims1 n2 B bn bc hm w1 hk)
 obtain ⟨-, y0, y1, y2, y3, -, -, -, -⟩ := (Zz.mk hx).facts
 have HB := Hd (hb.out.trans hb1)
 clear C1 hb hk hb1 hx hxf hfa hne x0 x1 x2 x3
 go_wp2_with fail
 refine C2.out.mono ?_
 rintro e w2 ⟨rfl, lims2, hk2, hb2, hx2⟩
 have HF := Hd (⟨lims2, hk2, HB.out.trans hb2, HFA.out.trans hx2⟩ : ∃ lims', JC w2 b (m + 2) (Xv (Xv l m (.slice A an ac)) (m + 1) (.slice B bn bc)) lims' /\ Below b w w2 /\ Far b w w2)
 clear C2 HB HFA hk2 hb2 hx2 y0 y1 y2 y3
 go_wp2_with fail
 exact bodyPost_end (v := .tuple #[]) (by simp [results, Tryz.results37, go_sem]) rfl ⟨rfl, HF.out⟩

theorem own_base {w : World} {lo b n size : Nat} {e : TypeId} {v : Value} {X : List Value} (hlo : lo <= b) (h : w.ownsRow b e size v n X) : w.ownsRow lo e size v n X := by
 refine ⟨h.1, ?_⟩
 rcases h.2 with h5 | ⟨g, cap, cur, k1, k2, k3⟩
 . exact .inl h5
 . exact .inr ⟨g, cap, cur, k1, Nat.le_trans hlo k2, k3⟩
theorem ZC.app {w0 w : World} {lo : Nat} {vs us : List Value} (h : ZC w lo vs) (h0 : ZC w0 lo vs) (hlo : lo <= w0.heap.size) (hu : ZC w w0.heap.size us) : ZC w lo (vs ++ us) := by
 have e0 : ∀ j, j < vs.length -> (vs ++ us).getD j ZG = vs.getD j ZG := fun j hj => by
   simp [List.getD, List.getElem?_append_left hj]
 have e1 : ∀ j, vs.length <= j -> (vs ++ us).getD j ZG = us.getD (j - vs.length) ZG := fun j hj => by
   simp [List.getD, List.getElem?_append_right hj]
 have old : ∀ j, j < vs.length -> ∀ g, (vs.getD j ZG).ownBlock = some g -> g < w0.heap.size := fun j hj g hg => by
   obtain ⟨n, X, a1, a2⟩ := h0.row j hj
   exact (a2.lt g hg).2
 refine ⟨fun j hj => ?_, fun j k hjk hk g hg => ?_⟩
 . rw [List.length_append] at hj
   rcases Nat.lt_or_ge j vs.length with hl | hl
   . rw [e0 j hl]; exact h.row j hl
   . rw [e1 j hl]
     obtain ⟨n, X, a1, a2⟩ := hu.row (j - vs.length) (by omega)
     exact ⟨n, X, a1, own_base hlo a2⟩
 . rw [List.length_append] at hk
   rcases Nat.lt_or_ge k vs.length with hl | hl
   . rw [e0 k hl]; rw [e0 j (by omega)] at hg; exact h.apart j k hjk hl g hg
   . rw [e1 k hl]
     rcases Nat.lt_or_ge j vs.length with hl2 | hl2
     . rw [e0 j hl2] at hg
       intro h9
       have b1 := old j hl2 g hg
       obtain ⟨n, X, a1, a2⟩ := hu.row (k - vs.length) (by omega)
       have b2 := (a2.lt g h9).1
       omega
     . rw [e1 j hl2] at hg
       exact hu.apart (j - vs.length) (k - vs.length) (by omega) (by omega) g hg
theorem ZC.two {w : World} {lo n1 n2 : Nat} {v1 v2 : Value} {X1 X2 : List Value} (hn1 : n1 <= 1073741824) (hn2 : n2 <= 1073741824) (h1 : w.ownsRow lo XI 1 v1 n1 X1) (h2 : w.ownsRow lo XI 1 v2 n2 X2) (hne : ∀ g, v1.ownBlock = some g -> v2.ownBlock ≠ some g) : ZC w lo [v1, v2] := by
 refine ⟨fun j hj => ?_, fun j k hjk hk g hg => ?_⟩
 . simp at hj
   rcases (by omega : j = 0 ∨ j = 1) with rfl | rfl
   . exact ⟨n1, X1, hn1, h1⟩
   . exact ⟨n2, X2, hn2, h2⟩
 . simp at hk
   obtain rfl : j = 0 := by omega
   obtain rfl : k = 1 := by omega
   exact hne g hg
theorem ZC.both {w : World} {lo : Nat} {vs us : List Value} (h : ZC w lo vs) (k : ZC w lo us) (hne : ∀ i j, i < vs.length -> j < us.length -> ∀ g, (vs.getD i ZG).ownBlock = some g -> (us.getD j ZG).ownBlock ≠ some g) : ZC w lo (vs ++ us) := by
 have e0 : ∀ j, j < vs.length -> (vs ++ us).getD j ZG = vs.getD j ZG := fun j hj => by
   simp [List.getD, List.getElem?_append_left hj]
 have e1 : ∀ j, vs.length <= j -> (vs ++ us).getD j ZG = us.getD (j - vs.length) ZG := fun j hj => by
   simp [List.getD, List.getElem?_append_right hj]
 refine ⟨fun j hj => ?_, fun i j hij hj g hg => ?_⟩
 . rw [List.length_append] at hj
   rcases Nat.lt_or_ge j vs.length with hl | hl
   . rw [e0 j hl]; exact h.row j hl
   . rw [e1 j hl]; exact k.row (j - vs.length) (by omega)
 . rw [List.length_append] at hj
   rcases Nat.lt_or_ge j vs.length with hl | hl
   . rw [e0 j hl]; rw [e0 i (by omega)] at hg; exact h.apart i j hij hl g hg
   . rw [e1 j hl]
     rcases Nat.lt_or_ge i vs.length with hl2 | hl2
     . rw [e0 i hl2] at hg; exact hne i (j - vs.length) hl2 (by omega) g hg
     . rw [e1 i hl2] at hg; exact k.apart (i - vs.length) (j - vs.length) (by omega) (by omega) g hg
theorem Zl.free {w : World} {lo c e : Nat} {n d : Int} {A B : Option Addr} (h : Zl w lo (.agg #[.bool (decide (n < 0)), .slice A (Za n.natAbs).length c, .bool (decide (d < 0)), .slice B (Za d.natAbs).length e]) n d) (hn : lz n <= 1073741824) (hd : lz d <= 1073741824) :
  ZC w lo [.slice A (Za n.natAbs).length c, .slice B (Za d.natAbs).length e] := by
 obtain ⟨⟨X, r1⟩, ⟨Y, r2⟩, h4⟩ := h.rows
 exact .two hn hd r1 r2 h4
theorem Zo.free {w : World} {lo c1 c2 c3 c4 : Nat} {n d m f : Int} {A1 A2 A3 A4 : Option Addr} (h : Zo w lo (.agg #[.bool (decide (n < 0)), .slice A1 (Za n.natAbs).length c1, .bool (decide (d < 0)), .slice A2 (Za d.natAbs).length c2, .bool (decide (m < 0)), .slice A3 (Za m.natAbs).length c3, .bool (decide (f < 0)), .slice A4 (Za f.natAbs).length c4]) n d m f)
   (hn : lz n <= 1073741824) (hd : lz d <= 1073741824) (hm : lz m <= 1073741824) (hf : lz f <= 1073741824) :
   ZC w lo [.slice A1 (Za n.natAbs).length c1, .slice A2 (Za d.natAbs).length c2, .slice A3 (Za m.natAbs).length c3, .slice A4 (Za f.natAbs).length c4] := by
 obtain ⟨B1, k1, B2, k2, B3, k3, B4, k4, h1, h2, h3, h4⟩ := h.form
 simp only [Value.agg.injEq, Array.mk.injEq, List.cons.injEq, Value.slice.injEq, and_true, true_and] at h1
 obtain ⟨⟨rfl, rfl⟩, ⟨rfl, rfl⟩, ⟨rfl, rfl⟩, rfl, rfl⟩ := h1
 refine ZC.both (h2.free hn hd) (h3.free hm hf) fun i j hi hj g hg hg2 => ?_
 simp at hi hj
 refine h4 g (Yj.of ?_) (Yj.of ?_)
 . rcases (by omega : i = 0 ∨ i = 1) with rfl | rfl
   . exact .inl hg
   . exact .inr hg
 . rcases (by omega : j = 0 ∨ j = 1) with rfl | rfl
   . exact .inl hg2
   . exact .inr hg2
theorem ZC.perm {w : World} {lo : Nat} {vs us : List Value} (h : ZC w lo vs) (p : vs.Perm us) : ZC w lo us := by
 have e : ∀ (l : List Value) (j : Nat) (hj : j < l.length), l.getD j ZG = l[j] := fun l j hj => by simp [List.getD, List.getElem?_eq_getElem hj]
 have hp : vs.Pairwise (fun a b : Value => ∀ g, a.ownBlock = some g -> b.ownBlock ≠ some g) := by
   rw [List.pairwise_iff_getElem]
   intro i j hi hj hij
   have := h.apart i j hij hj
   rw [e vs i hi, e vs j hj] at this
   exact this
 have hq := (p.pairwise_iff (fun {a b} (k : ∀ g, a.ownBlock = some g -> b.ownBlock ≠ some g) g hb ha => k g ha hb)).1 hp
 rw [List.pairwise_iff_getElem] at hq
 refine ⟨fun j hj => ?_, fun j k hjk hk g hg => ?_⟩
 . rw [e us j hj]
   obtain ⟨i, hi, hv⟩ := List.getElem_of_mem (p.symm.subset (List.getElem_mem hj))
   have := h.row i hi
   rw [e vs i hi, hv] at this
   exact this
 . rw [e us j (by omega)] at hg
   rw [e us k hk]
   exact hq j k (by omega) hk hjk g hg
theorem ZC.ins {w0 w : World} {lo : Nat} (xs us ys : List Value) (h : ZC w lo (xs ++ ys)) (h0 : ZC w0 lo (xs ++ ys)) (hlo : lo <= w0.heap.size) (hu : ZC w w0.heap.size us) : ZC w lo (xs ++ (us ++ ys)) :=
 (h.app h0 hlo hu).perm (by rw [List.append_assoc]; exact List.Perm.append_left xs List.perm_append_comm)

def blkAgg (v : Value) (g : Nat) : Prop := ∃ cs : Array Value, v = .agg cs /\ ∃ c ∈ cs.toList, c.ownBlock = some g
theorem YZ.base {a b : Nat} {n1 n2 n3 n4 : Bool} {xs ys us vs : List Nat} {v : Value} {V : World} (h : YZ b n1 n2 n3 n4 xs ys us vs v V) (k : a <= b) : YZ a n1 n2 n3 n4 xs ys us vs v V := by
 obtain ⟨g1, g2, g3, g4, h0, h1, h2, h3, h4, ⟨l1, l2, l3, l4⟩, h5⟩ := h.form
 exact ⟨g1, g2, g3, g4, h0, h1, h2, h3, h4, ⟨by omega, by omega, by omega, by omega⟩, h5⟩
theorem YZ.raw {b : Nat} {n1 n2 n3 n4 : Bool} {xs ys us vs : List Nat} {v : Value} {V : World} (h : YZ b n1 n2 n3 n4 xs ys us vs v V) (hx : Zj xs) (hy : Zj ys) (hu : Zj us) (hv : Zj vs) (l1 : xs.length <= 1048576) (l2 : ys.length <= 1048576) (l3 : us.length <= 1048576) (l4 : vs.length <= 1048576) : ZR V v n1 n2 n3 n4 xs ys us vs := by
 obtain ⟨g1, g2, g3, g4, h0, h1, h2, h3, h4, -⟩ := h.form
 exact ⟨_, _, _, _, _, _, _, _, h0, h1.raw hx (by omega), h2.raw hy (by omega), h3.raw hu (by omega), h4.raw hv (by omega)⟩

theorem beyond_big3 (A : Option Addr) (c : Nat) (zs : List Nat) (hz : zs.length <= 1000) (hm : ∀ z ∈ zs, z <= 9000000000000000000) (w : World) (B : Nat) (hr : ZD w B 1 A zs.length (cellsI zs)) :
  Calls Tryz.prog 5 #[.slice A zs.length c] w fun e w' => e = .returned (.bool (decide (1048576 < zs.sum))) /\ w = w' := by
 have HR := Hd hr
 have HM := Hd hm
 clear hr hm
 go_enter Tryz.func5, Tryz.ntmps5
 go_wp2_with fail
 go_loop [3, 4] (fun n i => ∃ k s : Nat, i = .int .i64 k /\ n = .int .i64 s /\ k <= zs.length /\ s = (zs.take k).sum /\ s <= 1048576) (fun _ i => zs.length - (intOf i).toNat)
 case atStart => exact ⟨0, 0, rfl, rfl, Nat.zero_le _, rfl, by omega⟩
 case round =>
  obtain ⟨k, s, rfl, rfl, hk, hs, hle⟩ := hrel
  have HS := Hd hs
  clear hs
  by_cases hlt : k < zs.length
  . obtain ⟨ad, rfl, -, hc⟩ := HR.out.2 (by omega)
    have hcell := hc k _ (cellsI_get hlt)
    have hz1 := HM.out zs[k] (List.getElem_mem hlt)
    have hs2 := sum_take_more zs k hlt
    rw [<- HS.out] at hs2
    have HS2 := Hd hs2
    clear hc hs2
    generalize zs[k] = z at *
    by_cases hbig : s + z <= 1048576
    . go_wp2_with fail
      go_round
      case rel => exact ⟨k + 1, s + z, by go_num, by go_num, hlt, HS2.out.symm, hbig⟩
      case measure => simp [intOf]; omega
    . have hd : decide (1048576 < zs.sum) = true := by
       have h1 := sum_take_le zs (k + 1)
       rw [HS2.out] at h1
       simp; omega
      have HD := Hd hd
      clear hd
      have hbig2 : 1048576 < (s : Int) + (z : Int) := by omega
      clear hbig
      go_wp2
      go_ret
      exact ⟨by rw [HD.out]; rfl, rfl⟩
  . have hd : decide (1048576 < zs.sum) = false := by
      have h1 := HS.out
      rw [List.take_of_length_le (by omega)] at h1
      simp; omega
    have HD := Hd hd
    clear hd
    go_wp2
    go_ret
    exact ⟨by rw [HD.out]; rfl, rfl⟩
theorem beyond_of3 (ns : List Nat) (b : Bool) (hl : ns.length <= 1000) (hm : ∀ z ∈ ns, z <= 9000000000000000000) (hb : b = decide (1048576 < ns.sum)) (u : Value) (V : World) (h : SliceOf ns u V) :
   Calls Tryz.prog 5 #[u] V fun e w' => e = .returned (.bool b) /\ Below V.heap.size V w' := by
 obtain ⟨g, t, rfl, h2⟩ := h.form
 subst hb
 refine (beyond_big3 (some ⟨g, 0, none⟩) ns.length ns hl hm V V.heap.size ?_).mono ?_
 . refine ⟨by rw [cellsI_length, Nat.mul_one], fun _ => ⟨_, rfl, h2.lt, fun j u hu => ?_⟩⟩
   rw [show (⟨g, 0, none⟩ : Addr).add j = ⟨g, j, none⟩ by unfold Addr.add; split <;> simp_all, h2.cell j, <- hu]
   simp
 . rintro e w' ⟨rfl, rfl⟩
   exact ⟨rfl, Below.refl _ _⟩

theorem left_gauss (n1 n2 n3 n4 : Bool) (xs ys us vs : List Nat) (g1 g2 g3 g4 : Nat) (w : World) (v_x : Value) (t1 : Z0 w g1 xs) (t2 : Z0 w g2 ys) (t3 : Z0 w g3 us) (t4 : Z0 w g4 vs) (g_x : ZR w v_x n1 n2 n3 n4 xs ys us vs) (hx : xs.length <= 1048576) (hy : ys.length <= 1048576) (hu : us.length <= 1048576) (hv : vs.length <= 1048576) :
  Calls Tryz.prog 13 #[.agg #[.bool n1, .slice (some ⟨g1, 0, none⟩) xs.length (xs.length + 1), .bool n2, .slice (some ⟨g2, 0, none⟩) ys.length (ys.length + 1), .bool n3, .slice (some ⟨g3, 0, none⟩) us.length (us.length + 1), .bool n4, .slice (some ⟨g4, 0, none⟩) vs.length (vs.length + 1)], v_x] w fun e w' => e = .returned (.bool true) /\ Below w.heap.size w w' := by
 obtain ⟨Ax1, cx1, Ax2, cx2, Ax3, cx3, Ax4, cx4, rfl, r1, r2, r3, r4⟩ := g_x.form
 have H1 := Hd (fun (V : World) (h : Zm V Ax1 cx1 xs) (g : Zm V Ax2 cx2 ys) (t1 : Z0 V g1 xs) (t2 : Z0 V g2 ys) => left_frac n1 n2 Ax1 Ax2 cx1 cx2 xs ys g1 g2 V h g t1 t2 hx hy)
 have H2 := Hd (fun (V : World) (h : Zm V Ax3 cx3 us) (g : Zm V Ax4 cx4 vs) (t1 : Z0 V g3 us) (t2 : Z0 V g4 vs) => left_frac n3 n4 Ax3 Ax4 cx3 cx4 us vs g3 g4 V h g t1 t2 hu hv)
 have R1 := Hd r1
 have R2 := Hd r2
 have R3 := Hd r3
 have R4 := Hd r4
 have T1 := Hd t1
 have T2 := Hd t2
 have T3 := Hd t3
 have T4 := Hd t4
 clear g_x r1 r2 r3 r4 t1 t2 t3 t4 hx hy hu hv
 go_enter Tryz.func13, Tryz.ntmps13
 go_upto_region 1 with fail
 refine boxes2 (P := fun W => Code.wp _ _ _ _ W) fun W p0 p1 b0 => ?_
 have PT := Hd (Yl.mk p0)
 have PX := Hd (Yl.mk p1)
 have HB := Hd b0
 clear b0 p0 p1
 obtain ⟨-, a0, a1, a2, a3, a4, a5, a6, a7⟩ := PT.out.facts
 obtain ⟨-, x0, x1, x2, x3, x4, x5, x6, x7⟩ := PX.out.facts
 go_wp2_with fail
 refine (H1.out W (R1.out.below HB.out) (R2.out.below HB.out) (T1.out.below HB.out) (T2.out.below HB.out)).mono ?_
 rintro e w1 ⟨rfl, hb⟩
 clear a0 a1 a2 a3 a4 a5 a6 a7 x0 x1 x2 x3 x4 x5 x6 x7
 have PT := Hd (PT.out.below hb)
 have PX := Hd (PX.out.below hb)
 have HB := Hd (Zb HB.out hb)
 clear hb
 obtain ⟨-, a0, a1, a2, a3, a4, a5, a6, a7⟩ := PT.out.facts
 obtain ⟨-, x0, x1, x2, x3, x4, x5, x6, x7⟩ := PX.out.facts
 go_wp2_with fail
 refine (H2.out w1 (R3.out.below HB.out) (R4.out.below HB.out) (T3.out.below HB.out) (T4.out.below HB.out)).mono ?_
 rintro e w2 ⟨rfl, hb⟩
 have HB := Hd (Zb HB.out hb)
 clear hb a0 a1 a2 a3 a4 a5 a6 a7 x0 x1 x2 x3 x4 x5 x6 x7
 go_wp2_with fail
 go_ret
 exact ⟨rfl, HB.out⟩


theorem book_Gauss (b m : Nat) (l : Nat -> Value) (lims : Value) (n1 n2 n3 n4 : Bool) (A B C D : Option Addr) (an ac bn bc cn cc dn dc : Nat) (hm : m + 3 <= 1000) (w : World) (h : JC w b m l lims) :
  Calls Tryz.prog 14 #[.pointer (some ⟨b, 0, none⟩), .agg #[.bool n1, .slice A an ac, .bool n2, .slice B bn bc, .bool n3, .slice C cn cc, .bool n4, .slice D dn dc]] w fun e w' => e = .returned (.tuple #[]) /\ ∃ lims', JC w' b (m + 4) (Xv (Xv (Xv (Xv l m (.slice A an ac)) (m + 1) (.slice B bn bc)) (m + 2) (.slice C cn cc)) (m + 3) (.slice D dn dc)) lims' /\ Below b w w' /\ Far b w w' := by
 have hlt := h.book.lt
 have px := Yl.new w 28 (.bool n1) (.slice A an ac) (.bool n2) (.slice B bn bc) (.bool n3) (.slice C cn cc) (.bool n4) (.slice D dn dc)
 have hb := Hd (((Below.refl w.heap.size w).alloc (Nat.le_refl _) (.cells #[.bool n1, .slice A an ac, .bool n2, .slice B bn bc, .bool n3, .slice C cn cc, .bool n4, .slice D dn dc] 28)).mono (Nat.le_of_lt hlt))
 have C1 := Hd (book_Frac_all b m l lims n1 n2 A B an ac bn bc (by omega) _ (h.below ((Below.refl _ _).alloc (Nat.le_refl _) (.cells #[.bool n1, .slice A an ac, .bool n2, .slice B bn bc, .bool n3, .slice C cn cc, .bool n4, .slice D dn dc] 28))))
 have hfa := Hd (Far.of_below (b := b) ((Below.refl w.heap.size w).alloc (Nat.le_refl _) (.cells #[.bool n1, .slice A an ac, .bool n2, .slice B bn bc, .bool n3, .slice C cn cc, .bool n4, .slice D dn dc] 28)))
 have hne : w.heap.size ≠ b := by omega
 have PX := Hd px
 clear h px
 obtain ⟨-, x0, x1, x2, x3, x4, x5, x6, x7⟩ := PX.out.facts
 go_enter Tryz.func14, Tryz.ntmps14
 go_wp2_with fail
 refine C1.out.mono ?_
 rintro e w1 ⟨rfl, lims1, hk, hb1, hxf⟩
 have hx := hxf.blk _ _ _ (by decide) hne PX.out.blk
 have HFA := Hd (hfa.out.trans hxf)
 have C2 := Hd (book_Frac_all b (m + 2) (Xv (Xv l m (.slice A an ac)) (m + 1) (.slice B bn bc)) lims1 n3 n4 C D cn cc dn dc (by omega) w1 hk)
 obtain ⟨-, y0, y1, y2, y3, y4, y5, y6, y7⟩ := (Yl.mk hx).facts
 have HB := Hd (hb.out.trans hb1)
 clear C1 hb hk hb1 hx hxf hfa hne x0 x1 x2 x3 x4 x5 x6 x7
 go_wp2_with fail
 refine C2.out.mono ?_
 rintro e w2 ⟨rfl, lims2, hk2, hb2, hx2⟩
 have HF := Hd (⟨lims2, hk2, HB.out.trans hb2, HFA.out.trans hx2⟩ : ∃ lims', JC w2 b (m + 4) (Xv (Xv (Xv (Xv l m (.slice A an ac)) (m + 1) (.slice B bn bc)) (m + 2) (.slice C cn cc)) (m + 3) (.slice D dn dc)) lims' /\ Below b w w2 /\ Far b w w2)
 clear C2 HB HFA hk2 hb2 hx2 y0 y1 y2 y3 y4 y5 y6 y7
 go_wp2_with fail
 exact bodyPost_end (v := .tuple #[]) (by simp [results, Tryz.results14, go_sem]) rfl ⟨rfl, HF.out⟩
theorem rows_upd4 (rs : List Value) (a b c d : Value) (j : Nat) (hj : j < (rs ++ [a, b, c, d]).length) : Xv (Xv (Xv (Xv (fun j => rs.getD j ZG) rs.length a) (rs.length + 1) b) (rs.length + 2) c) (rs.length + 3) d j = (rs ++ [a, b, c, d]).getD j ZG := by
 rw [List.length_append] at hj
 simp at hj
 rcases (by omega : j < rs.length ∨ j = rs.length ∨ j = rs.length + 1 ∨ j = rs.length + 2 ∨ j = rs.length + 3) with h | rfl | rfl | rfl | rfl
 . rw [Y8 _ _ (by omega), Y8 _ _ (by omega), Y8 _ _ (by omega), Y8 _ _ (by omega)]
   simp [List.getD, List.getElem?_append_left h]
 . rw [Y8 _ _ (by omega), Y8 _ _ (by omega), Y8 _ _ (by omega), XO]
   simp [List.getD]
 . rw [Y8 _ _ (by omega), Y8 _ _ (by omega), XO]
   simp [List.getD]
 . rw [Y8 _ _ (by omega), XO]
   simp [List.getD]
 . rw [XO]
   simp [List.getD]
structure Kept (w : World) (b : Nat) (rs : List Value) : Prop where
 form : ∃ lims, JC w b rs.length (fun j => rs.getD j ZG) lims
theorem keep_gauss (b : Nat) (rs : List Value) (n1 n2 n3 n4 : Bool) (A B C D : Option Addr) (an ac bn bc cn cc dn dc : Nat) (hm : rs.length + 3 <= 1000) (w : World) (h : Kept w b rs) :
  Calls Tryz.prog 14 #[.pointer (some ⟨b, 0, none⟩), .agg #[.bool n1, .slice A an ac, .bool n2, .slice B bn bc, .bool n3, .slice C cn cc, .bool n4, .slice D dn dc]] w fun e w' => e = .returned (.tuple #[]) /\ Kept w' b (rs ++ [.slice A an ac, .slice B bn bc, .slice C cn cc, .slice D dn dc]) /\ Below b w w' /\ Far b w w' := by
 obtain ⟨lims, k⟩ := h.form
 refine (book_Gauss b rs.length _ lims n1 n2 n3 n4 A B C D an ac bn bc cn cc dn dc hm w k).mono ?_
 rintro e w' ⟨rfl, lims', hk, hb, hf⟩
 refine ⟨rfl, ⟨lims', ?_⟩, hb, hf⟩
 rw [List.length_append]
 exact hk.cong fun j hj => rows_upd4 rs _ _ _ _ j (by rw [List.length_append]; exact hj)
theorem kept_apart (b B0 : Nat) (vs : List Value) (w0 w : World) (hne : vs ≠ []) (hlen : vs.length <= 1000) (hk : Kept w b vs) (hr : ZC w B0 vs) (hB : B0 <= b) (hl : Below B0 w0 w) :
  Calls Tryz.prog 15 #[.pointer (some ⟨b, 0, none⟩)] w fun e w' => e = .returned (.bool true) /\ Below B0 w0 w' := by
 obtain ⟨lims, k⟩ := hk.form
 exact apart_free b B0 vs lims w0 w hne hlen k hr hB hl
end Go.Proofs.YtdonecnhdkjniaaGreatDoor
