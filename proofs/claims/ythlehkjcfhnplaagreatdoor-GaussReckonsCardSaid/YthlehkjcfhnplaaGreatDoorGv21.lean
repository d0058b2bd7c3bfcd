/- Several texts in one: Grow, GrowW, Look, Apart, Up. -/
import Derived.Test.YthlehkjcfhnplaaGreatDoorGv20
set_option maxRecDepth 100000
set_option maxHeartbeats 8000000
namespace Go.Proofs.YthlehkjcfhnplaaGreatDoor
open Go.RowKit

structure Grown (w0 w : World) (b g0 cap m B0 : Nat) (l long : Nat -> Value) (n : Nat -> Nat) (i : Nat) : Prop where
 shelf : Xg w0 w b g0 cap m B0 l long n (fun j => List.replicate (n j) (YI j))
 longs : ∀ j, j < i -> j < m -> w.ownsRow B0 Xj 1 (long j) (n j + 70) (List.replicate (n j + 70) (YI j)) /\ ∀ g, (long j).ownBlock = some g -> (l j).ownBlock = some g ∨ (g0 < g /\ ∀ j', j' < m -> ∀ x, (l j').ownBlock = some x -> x < g)
 rest : ∀ j, i <= j -> long j = ZJ
structure XQ (w0 w : World) (b g0 cap m B0 : Nat) (l long : Nat -> Value) (n : Nat -> Nat) (i Nh k : Nat) (v : Value) : Prop where
 grown : Grown w0 w b g0 cap m B0 l long n i
 copy : ZR w Nh Xb #[l i, ZJ, .int .i64 ((i : Int) + 1)]
 row : w.ownsRow B0 Xj 1 v (n i + k) (List.replicate (n i + k) (YI i))
 place : (∃ A c, l i = .slice A (n i) c /\ v = .slice A (n i + k) c) ∨ ∃ g, v.ownBlock = some g /\ Nh < g
 under : ∀ j, j < i -> j < m -> ∀ g, (long j).ownBlock = some g -> g < Nh
 old : ∀ j, j < m -> ∀ g, (l j).ownBlock = some g -> g < Nh
section
variable {w0 w w' : World} {b g0 cap m B0 : Nat} {l long : Nat -> Value} {n : Nat -> Nat} {i Nh k : Nat} {v v' : Value}
theorem Grown.below (h : Grown w0 w b g0 cap m B0 l long n i) (p : Plain b g0 m B0 l n) (hb : Below w.heap.size w w') : Grown w0 w' b g0 cap m B0 l long n i :=
 ⟨h.shelf.below p hb, fun j hj hjm => ⟨ZA (h.longs j hj hjm).1 hb, (h.longs j hj hjm).2⟩, h.rest⟩
theorem XQ.below (h : XQ w0 w b g0 cap m B0 l long n i Nh k v) (p : Plain b g0 m B0 l n) (hb : Below w.heap.size w w') : XQ w0 w' b g0 cap m B0 l long n i Nh k v :=
 ⟨h.grown.below p hb, h.copy.below hb h.copy.lt, ZA h.row hb, h.place, h.under, h.old⟩
theorem ZR.kept {g : Nat} {t : TypeId} {cs : Array Value} (h : ZR w g t cs) {row : Option Nat} (hg : w.grownBy w' row) (hn : some g ≠ row) : ZR w' g t cs := (hg.block g h.lt hn).trans h
theorem XQ.step (h : XQ w0 w b g0 cap m B0 l long n i Nh k v) (p : Plain b g0 m B0 l n) (hi : i < m) (hNh : g0 < Nh) (ho : w'.ownsRow B0 Xj 1 v' (n i + k + 1) (List.replicate (n i + k) (YI i) ++ [YI i])) (hg : Grew w v (n i + k) v' w') :
   XQ w0 w' b g0 cap m B0 l long n i Nh (k + 1) v' := by
 have hrow : w'.ownsRow B0 Xj 1 v' (n i + (k + 1)) (List.replicate (n i + (k + 1)) (YI i)) := by
   rw [<- List.replicate_succ'] at ho
   exact ho
 have hgb := p.hg
 have hBb := p.hb
 have hb0 := h.grown.shelf.book.lt
 rcases hg with ⟨g, c, rfl, rfl, hgr⟩ | ⟨hat, hgr⟩
 . -- in place
   have hBg : B0 <= g := (h.row.lt g rfl).1
   rcases h.place with ⟨A, c', hl, hv⟩ | ⟨g', hv, hlt⟩
   . injection hv with a1 a2 a3
     subst a1 a3
     have hgu := p.under i hi g (by rw [hl]; rfl)
     have hgo := h.old i hi g (by rw [hl]; rfl)
     refine ⟨⟨⟨h.grown.shelf.book.kept hgr (fun e => by injection e with e; exact hgu.1 e.symm), h.grown.shelf.arr.kept hgr (fun e => by injection e with e; exact hgu.2 e.symm), fun j hj => ?_, h.grown.shelf.low.grown hgr (by omega) (fun x hx => by injection hx with hx; omega)⟩, fun j hj hjm => ⟨?_, (h.grown.longs j hj hjm).2⟩, h.grown.rest⟩, h.copy.kept hgr (fun e => by injection e with e; omega), hrow, .inl ⟨_, c, hl, rfl⟩, h.under, h.old⟩
     . by_cases e : j = i
       . subst e
         have h1 := own_cut hrow (k := n j) (by omega)
         rw [hl]
         rwa [List.take_replicate, Nat.min_eq_left (by omega)] at h1
       . refine (h.grown.shelf.rows j hj).kept hgr ?_
         rcases hv : (l j).ownBlock with _ | x
         . exact .inl rfl
         . refine .inr fun e2 => ?_
           exact p.apart i j hi hj (Ne.symm e) g (by rw [hl]; rfl) (hv.trans e2)
     . refine (h.grown.longs j hj hjm).1.kept hgr ?_
       rcases hv : (long j).ownBlock with _ | x
       . exact .inl rfl
       . refine .inr fun e2 => ?_
         injection e2 with e2
         subst e2
         rcases (h.grown.longs j hj hjm).2 _ hv with h2 | h2
         . exact p.apart i j hi hjm (by omega) _ (by rw [hl]; rfl) h2
         . exact absurd (h2.2 i hi _ (by rw [hl]; rfl)) (Nat.lt_irrefl _)
   . injection hv with hv
     have hv : g = g' := hv
     subst hv
     have hne : ∀ x : Nat, x <= Nh -> some x ≠ some g := fun x hx e => by injection e with e; omega
     refine ⟨⟨⟨h.grown.shelf.book.kept hgr (hne b (by omega)), h.grown.shelf.arr.kept hgr (hne g0 (by omega)), fun j hj => ?_, h.grown.shelf.low.grown hgr (by omega) (fun x hx => by injection hx with hx; omega)⟩, fun j hj hjm => ⟨?_, (h.grown.longs j hj hjm).2⟩, h.grown.rest⟩, h.copy.kept hgr (hne Nh (Nat.le_refl _)), hrow, .inr ⟨g, rfl, hlt⟩, h.under, h.old⟩
     . refine (h.grown.shelf.rows j hj).kept hgr ?_
       rcases hv : (l j).ownBlock with _ | x
       . exact .inl rfl
       . refine .inr fun e2 => ?_
         have := h.old j hj x hv
         injection e2 with e2
         omega
     . refine (h.grown.longs j hj hjm).1.kept hgr ?_
       rcases hv : (long j).ownBlock with _ | x
       . exact .inl rfl
       . refine .inr fun e2 => ?_
         have := h.under j hj hjm x hv
         injection e2 with e2
         omega
 . -- moved
   have hkeep : ∀ {e : TypeId} {v : Value} {k : Nat} {xs : List Value}, w.ownsRow B0 e 1 v k xs -> w'.ownsRow B0 e 1 v k xs := fun h1 => h1.kept hgr (by
     rename_i v _ _
     rcases hv : v.ownBlock with _ | x
     . exact .inl rfl
     . exact .inr (by simp))
   refine ⟨⟨⟨h.grown.shelf.book.kept hgr (by simp), h.grown.shelf.arr.kept hgr (by simp), fun j hj => hkeep (h.grown.shelf.rows j hj), h.grown.shelf.low.grown hgr (by omega) (fun x hx => by cases hx)⟩, fun j hj hjm => ⟨hkeep (h.grown.longs j hj hjm).1, (h.grown.longs j hj hjm).2⟩, h.grown.rest⟩, h.copy.kept hgr (by simp), hrow, .inr ⟨_, hat, h.copy.lt⟩, h.under, h.old⟩
theorem XQ.done (h : XQ w0 w b g0 cap m B0 l long n i Nh 70 v) (p : Plain b g0 m B0 l n) (hi : i < m) (hNh : g0 < Nh) :
   Grown w0 (w.setCell ⟨g0, i * 3 + 1, none⟩ v) b g0 cap m B0 l (Xp long i v) n (i + 1) := by
 have far : ∀ {u : Value} {k : Nat} {xs : List Value}, w.ownsRow B0 Xj 1 u k xs -> (∀ g, u.ownBlock = some g -> g ≠ g0) -> (w.setCell ⟨g0, i * 3 + 1, none⟩ v).ownsRow B0 Xj 1 u k xs := fun h1 h2 =>
   ownsRow_setCell_other h1 (fun e => h2 g0 e rfl) v
 have hplace : ∀ g, v.ownBlock = some g -> (l i).ownBlock = some g ∨ (g0 < g /\ ∀ j', j' < m -> ∀ x, (l j').ownBlock = some x -> x < g) := fun g hv => by
   rcases h.place with ⟨A, c, hl, rfl⟩ | ⟨g', hv', hlt⟩
   . left; rw [hl]; cases A <;> exact hv
   . rw [hv] at hv'; injection hv' with e; right; exact ⟨by omega, fun j' hj' x hx => by have := h.old j' hj' x hx; omega⟩
 refine ⟨h.grown.shelf.more p hi v, fun j hj hjm => ?_, fun j hj => by rw [Y3 _ _ (by omega)]; exact h.grown.rest j (by omega)⟩
 rcases (by omega : j < i ∨ j = i) with hj | rfl
 . rw [Y3 _ _ (by omega)]
   obtain ⟨h1, h2⟩ := h.grown.longs j hj hjm
   refine ⟨far h1 fun g hg' => (h2 g hg').elim (fun e => (p.under j hjm g e).2) (fun e => by omega), h2⟩
 . rw [Xz]
   exact ⟨far h.row fun g hg' => (hplace g hg').elim (fun e => (p.under j hi g e).2) (fun e => by omega), hplace⟩
end

theorem grow_limb (b g0 cap m B0 : Nat) (l : Nat -> Value) (n : Nat -> Nat) (w0 w : World) (p : Plain b g0 m B0 l n) (h : Xg w0 w b g0 cap m B0 l (fun _ => ZJ) n (fun j => List.replicate (n j) (YI j))) :
  Calls Tryz.prog 72 #[.pointer (some ⟨b, 0, none⟩)] w fun e w' => e = .returned (.tuple #[]) /\ ∃ long, Grown w0 w' b g0 cap m B0 l long n m := by
 obtain ⟨i0, hi, hz0, hz1, hz2⟩ := info_parts YQ
 have hm := p.hm
 have HP := Hd p
 have H0 := Hd (⟨fun _ => ZJ, h, fun j hj _ => absurd hj (Nat.not_lt_zero j), fun _ _ => rfl⟩ : ∃ long, Grown w0 w b g0 cap m B0 l long n 0)
 clear p h
 go_enter Tryz.func72, Tryz.ntmps72
 go_wp2_with fail
 go_loopw [2] (fun s wr => ∃ i : Nat, s = .int .i64 i /\ i <= m /\ Hid (∃ long, Grown w0 wr b g0 cap m B0 l long n i)) (fun s _ => m - (intOf s).toNat)
 case atStart => exact ⟨0, rfl, Nat.zero_le _, H0⟩
 case round =>
  obtain ⟨i, rfl, hi', HR⟩ := hrel
  clear H0
  obtain ⟨long, hgr⟩ := HR.out
  have c1 := hgr.shelf.book.cell 1
  simp at c1
  have HS := Hd hgr
  clear HR hgr
  by_cases hlt : i < m
  . have a0 : (0 : Int) <= (i : Int) := by omega
    have a1 : (i : Int) < (m : Int) := by omega
    obtain ⟨d0, d1, d2, -⟩ := HS.out.shelf.arr.at_ hlt
    rw [HS.out.rest i (Nat.le_refl _)] at d1
    obtain ⟨Ai, ci, hl⟩ := XR (by omega) (HS.out.shelf.rows i hlt)
    have HL := Hd hl
    rw [hl] at d0
    clear hl
    go_wp2_with fail
    have hNh := HS.out.shelf.arr.lt
    have hg1 := HS.out.below HP.out ((Below.refl wr.heap.size wr).alloc (Nat.le_refl _) (.cells #[.slice Ai (n i) ci, ZJ, .int .i64 ((i : Int) + 1)] Xb))
    have hcopy := ZR.new wr Xb #[.slice Ai (n i) ci, ZJ, .int .i64 ((i : Int) + 1)]
    have hunder : ∀ j, j < i -> j < m -> ∀ g, (long j).ownBlock = some g -> g < wr.heap.size := fun j hj hjm g hg => ((HS.out.longs j hj hjm).1.lt g hg).2
    have hold : ∀ j, j < m -> ∀ g, (l j).ownBlock = some g -> g < wr.heap.size := fun j hj g hg => ((HS.out.shelf.rows j hj).lt g hg).2
    obtain ⟨W, E⟩ : ∃ W, W = wr.alloc (.cells #[.slice Ai (n i) ci, ZJ, .int .i64 ((i : Int) + 1)] Xb) := ⟨_, rfl⟩
    rw [<- E] at hcopy hg1 ⊢
    clear E c1 d0 d1 d2
    have hni := HP.out.hn i hlt
    have H1 := Hd (⟨hg1, by rw [HL.out]; exact hcopy, hg1.shelf.rows i hlt, .inl ⟨Ai, ci, HL.out, HL.out⟩, hunder, hold⟩ : XQ w0 W b g0 cap m B0 l long n i wr.heap.size 0 (l i))
    have e0 := hcopy.cell 0
    have hltc := hcopy.lt
    simp at e0
    rw [HL.out] at H1
    obtain ⟨ni, hnn⟩ : ∃ ni, ni = n i := ⟨_, rfl⟩
    obtain ⟨Nh, hNN⟩ : ∃ Nh, Nh = wr.heap.size := ⟨_, rfl⟩
    rw [<- hnn] at HL H1 hni e0 ⊢
    rw [<- hNN] at H1 hNh e0 hltc ⊢
    have HNN := Hd hnn
    clear hcopy hg1 hnn hNN HS hunder hold
    go_wp2_with fail
    clear e0
    go_loopw [4, 5] (fun v s wq => ∃ k : Nat, s = .int .i64 k /\ k <= 70 /\ Hid (XQ w0 wq b g0 cap m B0 l long n i Nh k v)) (fun _ s _ => 70 - (intOf s).toNat)
    case atStart => exact ⟨0, rfl, Nat.zero_le _, H1⟩
    case round =>
     obtain ⟨k, rfl, hk, HG⟩ := hrel
     clear H1
     have e2 := HG.out.copy.cell 2
     have hlt4 := HG.out.copy.lt
     simp at e2
     by_cases hlk : k < 70
     . have q0 : (0 : Int) <= (k : Int) := by omega
       have q1 : (k : Int) < 70 := by omega
       obtain ⟨mu, hmu⟩ : ∃ mu : Int, YI i = .int .u32 mu := ⟨_, rfl⟩
       have hgg := HG.out.below HP.out ((Below.refl wr.heap.size wr).alloc (Nat.le_refl _) (.cells #[.int .u32 mu] Xj))
       have hB0 : B0 <= wr.heap.size := by have := HP.out.hb; have := HP.out.hg; omega
       have hcell := (ZR.new wr Xj #[.int .u32 mu]).cell 0
       have hb2 : n i + k + 1 <= maxLen /\ (n i + k + 1) * 4 <= 140737488355328 := by rw [<- HNN.out]; unfold maxLen; omega
       have HC := Hd hcell
       have HGG := Hd hgg
       have HB := Hd hb2
       have C0 := fun V => mark_limb i (by omega) V
       rw [hmu] at C0
       have C := Hd C0
       have HM := Hd hmu
       clear hcell hgg hb2 C0 hmu
       go_wp2_with (first
        | (go_at_call 159; with_reducible refine (C.out _).mono ?_; rintro e w' ⟨rfl, rfl⟩)
        | (at_builtin; refine wpList_append_one _ rfl (.tmp 28) (.tmp 32) _ rfl B0 Xj i0 _ 4 Tryz.underlying22 hi hz0 hz1 hz2 rfl u4 (n i + k) _ rfl HGG.out.row ⟨wr.heap.size, 0, none⟩ 1 (.int .u32 mu) rfl HC.out rfl HB.out.1 HB.out.2 (by simp; omega) ?_; intro v' w' ho hg))
       rw [<- HM.out] at ho
       go_roundw
       case rel => exact ⟨k + 1, by go_num, by omega, Hd (HGG.out.step HP.out hlt hNh ho hg)⟩
       case measure => simp [intOf]; omega
     . obtain rfl : k = 70 := by omega
       have c1 := HG.out.grown.shelf.book.cell 1
       simp at c1
       obtain ⟨d0, d1, d2, f1⟩ := HG.out.grown.shelf.arr.at_ hlt
       have S := Hd (HG.out.done HP.out hlt hNh)
       obtain ⟨Av, cv, rfl⟩ := XR (by omega) HG.out.row
       clear HG
       go_wp2_with fail
       go_roundw
       case rel => exact ⟨i + 1, by go_num, hlt, Hd ⟨_, S.out⟩⟩
       case measure => simp [intOf]; omega
  . obtain rfl : i = m := by omega
    have HF := Hd (⟨long, HS.out⟩ : ∃ long, Grown w0 wr b g0 cap i B0 l long n i)
    clear HP HS
    go_wp2_with fail
    exact bodyPost_end (v := .tuple #[]) (by simp [results, Tryz.results72, go_sem]) rfl ⟨rfl, HF.out⟩

theorem is_limb (j : Nat) (hj : j <= 100000) (w : World) :
  Calls Tryz.prog 175 #[YI j, .int .i64 ((j : Int) + 1)] w fun e w' => e = .returned (.bool true) /\ w = w' := by
 have e : (((100001 + j : Nat) : Int) == 100000 + ((j : Int) + 1)) = true := by simp; omega
 unfold YI
 go_enter Tryz.func175, Tryz.ntmps175
 go_wp2
 go_ret
 exact ⟨by go_num, rfl⟩
theorem mark_at {w : World} {base : Nat} {A : Option Addr} {n c i : Nat} (h : w.ownsRow base Xj 1 (.slice A n c) n (List.replicate n (YI i))) {k : Nat} (hk : k < n) : ∃ g, A = some ⟨g, 0, none⟩ /\ g < w.heap.size /\ w.cell? ⟨g, k, none⟩ = some (YI i) := by
 obtain ⟨g, cur, rfl, hb, hs, ht⟩ := own_blk h (by omega)
 refine ⟨g, rfl, hb.lt, ?_⟩
 rw [hb.cell]
 have e : cur[k]? = (cur.toList.take n)[k]? := by rw [List.getElem?_take, if_pos hk]; simp
 rw [e, ht]
 simp [hk]

theorem look_limb (b g0 cap m B0 : Nat) (l long : Nat -> Value) (n : Nat -> Nat) (w0 w : World) (p : Plain b g0 m B0 l n) (h : Grown w0 w b g0 cap m B0 l long n m) :
  Calls Tryz.prog 88 #[.pointer (some ⟨b, 0, none⟩)] w fun e w' => e = .returned (.bool true) /\ Below w.heap.size w w' := by
 have hm := p.hm
 have HP := Hd p
 have HS := Hd h
 clear p h
 go_enter Tryz.func88, Tryz.ntmps88
 go_wp2_with fail
 go_loopw [3] (fun s wr => ∃ i : Nat, s = .int .i64 i /\ i <= m /\ Hid (Below w.heap.size w wr)) (fun s _ => m - (intOf s).toNat)
 case atStart => exact ⟨0, rfl, Nat.zero_le _, Below.refl _ _⟩
 case round =>
  obtain ⟨i, rfl, hi', HB⟩ := hrel
  have HG := Hd (HS.out.below HP.out HB.out)
  have c1 := HG.out.shelf.book.cell 1
  simp at c1
  by_cases hlt : i < m
  . have a0 : (0 : Int) <= (i : Int) := by omega
    have a1 : (i : Int) < (m : Int) := by omega
    obtain ⟨d0, d1, d2, -⟩ := HG.out.shelf.arr.at_ hlt
    obtain ⟨Ai, ci, hl⟩ := XR (by omega) (HG.out.shelf.rows i hlt)
    obtain ⟨Ag, cg, hlg⟩ := XR (by omega) (HG.out.longs i hlt hlt).1
    have r1 := HG.out.shelf.rows i hlt
    have r2 := (HG.out.longs i hlt hlt).1
    rw [hl] at d0 r1
    rw [hlg] at d1 r2
    have hni := HP.out.hn i hlt
    have R1 := Hd r1
    have R2 := Hd r2
    clear hl hlg r1 r2
    go_wp2_with fail
    have hcopy := ZR.new wr Xb #[.slice Ai (n i) ci, .slice Ag (n i + 70) cg, .int .i64 ((i : Int) + 1)]
    have hb1 := HB.out.alloc HB.out.size (.cells #[.slice Ai (n i) ci, .slice Ag (n i + 70) cg, .int .i64 ((i : Int) + 1)] Xb)
    have q1 := ZA R1.out ((Below.refl wr.heap.size wr).alloc (Nat.le_refl _) (.cells #[.slice Ai (n i) ci, .slice Ag (n i + 70) cg, .int .i64 ((i : Int) + 1)] Xb))
    have q2 := ZA R2.out ((Below.refl wr.heap.size wr).alloc (Nat.le_refl _) (.cells #[.slice Ai (n i) ci, .slice Ag (n i + 70) cg, .int .i64 ((i : Int) + 1)] Xb))
    obtain ⟨W, E⟩ : ∃ W, W = wr.alloc (.cells #[.slice Ai (n i) ci, .slice Ag (n i + 70) cg, .int .i64 ((i : Int) + 1)] Xb) := ⟨_, rfl⟩
    rw [<- E] at hcopy hb1 q1 q2 ⊢
    clear E c1 d0 d1 d2 R1 R2 HG HB
    obtain ⟨ni, hnn⟩ : ∃ ni, ni = n i := ⟨_, rfl⟩
    obtain ⟨Nh, hNN⟩ : ∃ Nh, Nh = wr.heap.size := ⟨_, rfl⟩
    rw [<- hNN] at hcopy ⊢
    rw [<- hnn] at hcopy q1 q2 hni ⊢
    obtain ⟨mu, hmu⟩ : ∃ mu : Int, YI i = .int .u32 mu := ⟨_, rfl⟩
    have C0 := fun V => (is_limb i (by omega) V).mono fun e w' h => (⟨h.1, h.2.symm⟩ : e = .returned (.bool true) /\ w' = V)
    have M1 := fun (V : World) (hV : Below W.heap.size W V) (k : Nat) (hk : k < ni) => mark_at (ZA q1 hV) hk
    have M2 := fun (V : World) (hV : Below W.heap.size W V) (k : Nat) (hk : k < ni + 70) => mark_at (ZA q2 hV) hk
    rw [hmu] at C0
    simp only [hmu] at M1 M2
    have HC := Hd C0
    have H1 := Hd M1
    have H2 := Hd M2
    have HK := Hd hcopy
    have HB1 := Hd hb1
    clear C0 M1 M2 hcopy hb1 q1 q2 hnn hNN hmu
    go_loopw [5] (fun s wq => ∃ k : Nat, s = .int .i64 k /\ k <= ni + 70 /\ Hid (Below W.heap.size W wq)) (fun s _ => ni + 70 - (intOf s).toNat)
    case atStart => exact ⟨0, rfl, Nat.zero_le _, Below.refl _ _⟩
    case round =>
     obtain ⟨k, rfl, hk, HQ⟩ := hrel
     have hc := HK.out.below HQ.out HK.out.lt
     have e0 := hc.cell 0
     have e1 := hc.cell 1
     have e2 := hc.cell 2
     have lt1 := hc.lt
     simp at e0 e1 e2
     clear hc
     by_cases hlk : k < ni + 70
     . have p0 : (0 : Int) <= (k : Int) := by omega
       have p1 : (k : Int) < (ni : Int) + 70 := by omega
       obtain ⟨g, rfl, hgl, hcell⟩ := H2.out wr HQ.out k hlk
       by_cases hk2 : k < ni
       . have p2 : (k : Int) < (ni : Int) := by omega
         obtain ⟨g', rfl, hgl', hcell'⟩ := H1.out wr HQ.out k hk2
         go_wp2_with fail
         go_quiet ((go_at_call 175; exact Calls.quiet_of_same (HC.out _)))
         go_wp2_with fail
         go_roundw
         case rel => exact ⟨k + 1, by go_num, hlk, Hd (ZZ HQ.out _)⟩
         case measure => simp [intOf]; omega
       . have p2 : (ni : Int) <= (k : Int) := by omega
         go_wp2_with fail
         go_quiet ((go_at_call 175; exact Calls.quiet_of_same (HC.out _)))
         go_wp2_with fail
         go_roundw
         case rel => exact ⟨k + 1, by go_num, hlk, Hd (ZZ HQ.out _)⟩
         case measure => simp [intOf]; omega
     . obtain rfl : k = ni + 70 := by omega
       clear H1 H2 HC
       go_wp2_with fail
       go_roundw
       case rel => exact ⟨i + 1, by go_num, hlt, Hd (Zb HB1.out HQ.out)⟩
       case measure => simp [intOf]; omega
  . obtain rfl : i = m := by omega
    clear HG
    go_wp2_with fail
    go_ret
    exact ⟨rfl, HB.out⟩

theorem apart_true (b g0 cap m B0 : Nat) (l : Nat -> Value) (n : Nat -> Nat) (X : Nat -> List Value) (w0 w : World) (p : Plain b g0 m B0 l n) (h : Xg w0 w b g0 cap m B0 l (fun _ => ZJ) n X) :
  Calls Tryz.prog 16 #[.pointer (some ⟨b, 0, none⟩)] w fun e w' => e = .returned (.bool true) /\ Below B0 w0 w' := by
 have hB0 := Hd (Nat.le_of_lt (Nat.lt_of_le_of_lt p.hb h.book.lt))
 have HP := Hd p
 have C0 := Hd (fill_limb b g0 cap m B0 l n X w0 w p h)
 have C1 := Hd (fun (V : World) (hV : Xg w0 V b g0 cap m B0 l (fun _ => ZJ) n (fun j => List.replicate (n j) (YI j))) => grow_limb b g0 cap m B0 l n w0 V p hV)
 have C2 := Hd (fun (V : World) (long : Nat -> Value) (hV : Grown w0 V b g0 cap m B0 l long n m) => look_limb b g0 cap m B0 l long n w0 V p hV)
 clear p h
 go_enter Tryz.func16, Tryz.ntmps16
 go_wp2_with fail
 refine C0.out.mono ?_
 rintro e w1 ⟨rfl, hs1⟩
 have HK := Hd hs1.book
 have HS := Hd hs1
 clear hs1 C0
 go_wp2_with (first
  | (go_at_call 57; with_reducible refine (fill_Number b m _ _ HK.out).mono ?_; rintro e w' ⟨rfl, rfl⟩)
  | (go_at_call 58; with_reducible refine (fill_Float b m _ _ HK.out).mono ?_; rintro e w' ⟨rfl, rfl⟩)
  | (go_at_call 59; with_reducible refine (fill_Complex b m _ _ HK.out).mono ?_; rintro e w' ⟨rfl, rfl⟩)
  | (go_at_call 60; with_reducible refine (fill_Text b m _ _ HK.out).mono ?_; rintro e w' ⟨rfl, rfl⟩)
  | (go_at_call 61; with_reducible refine (fill_Frac b m _ _ HK.out).mono ?_; rintro e w' ⟨rfl, rfl⟩)
  | (go_at_call 62; with_reducible refine (fill_Gauss b m _ _ HK.out).mono ?_; rintro e w' ⟨rfl, rfl⟩)
  | (go_at_call 63; with_reducible refine (fill_Ray b m _ _ HK.out).mono ?_; rintro e w' ⟨rfl, rfl⟩)
  | (go_at_call 64; with_reducible refine (fill_Element b m _ _ HK.out).mono ?_; rintro e w' ⟨rfl, rfl⟩)
  | (go_at_call 65; with_reducible refine (fill_Coat b m _ _ HK.out).mono ?_; rintro e w' ⟨rfl, rfl⟩)
  | (go_at_call 66; with_reducible refine (fill_Disc b m _ _ HK.out).mono ?_; rintro e w' ⟨rfl, rfl⟩)
  | (go_at_call 67; with_reducible refine (fill_Part b m _ _ HK.out).mono ?_; rintro e w' ⟨rfl, rfl⟩)
  | (go_at_call 68; with_reducible refine (fill_Def b m _ _ HK.out).mono ?_; rintro e w' ⟨rfl, rfl⟩)
  | (go_at_call 69; with_reducible refine (fill_Item b m _ _ HK.out).mono ?_; rintro e w' ⟨rfl, rfl⟩)
  | (go_at_call 70; with_reducible refine (fill_Act b m _ _ HK.out).mono ?_; rintro e w' ⟨rfl, rfl⟩)
  | (go_at_call 71; with_reducible refine (fill_Reply b m _ _ HK.out).mono ?_; rintro e w' ⟨rfl, rfl⟩))
 refine (C1.out _ HS.out).mono ?_
 rintro e w2 ⟨rfl, long, hg2⟩
 have HK := Hd hg2.shelf.book
 have HG := Hd hg2
 clear hg2 C1 HS
 go_wp2_with (first
  | (go_at_call 73; with_reducible refine (grow_Number b m _ _ HK.out).mono ?_; rintro e w' ⟨rfl, rfl⟩)
  | (go_at_call 74; with_reducible refine (grow_Float b m _ _ HK.out).mono ?_; rintro e w' ⟨rfl, rfl⟩)
  | (go_at_call 75; with_reducible refine (grow_Complex b m _ _ HK.out).mono ?_; rintro e w' ⟨rfl, rfl⟩)
  | (go_at_call 76; with_reducible refine (grow_Text b m _ _ HK.out).mono ?_; rintro e w' ⟨rfl, rfl⟩)
  | (go_at_call 77; with_reducible refine (grow_Frac b m _ _ HK.out).mono ?_; rintro e w' ⟨rfl, rfl⟩)
  | (go_at_call 78; with_reducible refine (grow_Gauss b m _ _ HK.out).mono ?_; rintro e w' ⟨rfl, rfl⟩)
  | (go_at_call 79; with_reducible refine (grow_Ray b m _ _ HK.out).mono ?_; rintro e w' ⟨rfl, rfl⟩)
  | (go_at_call 80; with_reducible refine (grow_Element b m _ _ HK.out).mono ?_; rintro e w' ⟨rfl, rfl⟩)
  | (go_at_call 81; with_reducible refine (grow_Coat b m _ _ HK.out).mono ?_; rintro e w' ⟨rfl, rfl⟩)
  | (go_at_call 82; with_reducible refine (grow_Disc b m _ _ HK.out).mono ?_; rintro e w' ⟨rfl, rfl⟩)
  | (go_at_call 83; with_reducible refine (grow_Part b m _ _ HK.out).mono ?_; rintro e w' ⟨rfl, rfl⟩)
  | (go_at_call 84; with_reducible refine (grow_Def b m _ _ HK.out).mono ?_; rintro e w' ⟨rfl, rfl⟩)
  | (go_at_call 85; with_reducible refine (grow_Item b m _ _ HK.out).mono ?_; rintro e w' ⟨rfl, rfl⟩)
  | (go_at_call 86; with_reducible refine (grow_Act b m _ _ HK.out).mono ?_; rintro e w' ⟨rfl, rfl⟩)
  | (go_at_call 87; with_reducible refine (grow_Reply b m _ _ HK.out).mono ?_; rintro e w' ⟨rfl, rfl⟩)
  | (go_at_call 88; with_reducible refine (C2.out _ long HG.out).mono ?_; rintro e w3 ⟨rfl, hb3⟩; have hk3 := HK.out.below hb3 HK.out.lt; have HK3 := Hd hk3; clear hk3)
  | (go_at_call 89; with_reducible refine (look_Number b m _ _ HK3.out).mono ?_; rintro e w' ⟨rfl, rfl⟩)
  | (go_at_call 90; with_reducible refine (look_Float b m _ _ HK3.out).mono ?_; rintro e w' ⟨rfl, rfl⟩)
  | (go_at_call 91; with_reducible refine (look_Complex b m _ _ HK3.out).mono ?_; rintro e w' ⟨rfl, rfl⟩)
  | (go_at_call 92; with_reducible refine (look_Text b m _ _ HK3.out).mono ?_; rintro e w' ⟨rfl, rfl⟩)
  | (go_at_call 93; with_reducible refine (look_Frac b m _ _ HK3.out).mono ?_; rintro e w' ⟨rfl, rfl⟩)
  | (go_at_call 94; with_reducible refine (look_Gauss b m _ _ HK3.out).mono ?_; rintro e w' ⟨rfl, rfl⟩)
  | (go_at_call 95; with_reducible refine (look_Ray b m _ _ HK3.out).mono ?_; rintro e w' ⟨rfl, rfl⟩)
  | (go_at_call 96; with_reducible refine (look_Element b m _ _ HK3.out).mono ?_; rintro e w' ⟨rfl, rfl⟩)
  | (go_at_call 97; with_reducible refine (look_Coat b m _ _ HK3.out).mono ?_; rintro e w' ⟨rfl, rfl⟩)
  | (go_at_call 98; with_reducible refine (look_Disc b m _ _ HK3.out).mono ?_; rintro e w' ⟨rfl, rfl⟩)
  | (go_at_call 99; with_reducible refine (look_Part b m _ _ HK3.out).mono ?_; rintro e w' ⟨rfl, rfl⟩)
  | (go_at_call 100; with_reducible refine (look_Def b m _ _ HK3.out).mono ?_; rintro e w' ⟨rfl, rfl⟩)
  | (go_at_call 101; with_reducible refine (look_Item b m _ _ HK3.out).mono ?_; rintro e w' ⟨rfl, rfl⟩)
  | (go_at_call 102; with_reducible refine (look_Act b m _ _ HK3.out).mono ?_; rintro e w' ⟨rfl, rfl⟩)
  | (go_at_call 103; with_reducible refine (look_Reply b m _ _ HK3.out).mono ?_; rintro e w' ⟨rfl, rfl⟩))
 go_ret
 exact ⟨rfl, HG.out.shelf.low.trans (hb3.mono (by have := HG.out.shelf.book.lt; have := HP.out.hb; omega))⟩

def RowsUp (w : World) : Nat -> List Value -> Nat -> Prop
 | lo, [], hi => lo <= hi
 | lo, v :: vs, hi => ∃ n X mid, n <= 1073741824 /\ w.ownsRow lo Xj 1 v n X /\ (∀ g, v.ownBlock = some g -> g < mid) /\ lo <= mid /\ RowsUp w mid vs hi
theorem Ja.cong {w : World} {b m : Nat} {l l' : Nat -> Value} {lims : Value} (h : Ja w b m l lims) (e : ∀ j, j < m -> l j = l' j) : Ja w b m l' lims := by
 have : Z4 l m = Z4 l' m := by
  unfold Z4
  refine congrArg List.flatten (List.map_congr_left fun j hj => ?_)
  rw [e j (List.mem_range.1 hj)]
 exact ⟨h.book, this ▸ h.row⟩
theorem Ja.new (w : World) (l : Nat -> Value) : Ja (w.alloc (.cells (Z9 0 ZJ) Z1)) w.heap.size 0 l ZJ :=
 ⟨ZR.new w Z1 _, ⟨rfl, .inl ⟨rfl, rfl⟩⟩⟩

end Go.Proofs.YthlehkjcfhnplaaGreatDoor
