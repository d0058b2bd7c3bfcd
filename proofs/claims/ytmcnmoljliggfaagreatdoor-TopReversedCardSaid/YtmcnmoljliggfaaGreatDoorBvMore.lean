/- Theorems of the base that the elder claims did not need. -/
import Derived.Test.YtmcnmoljliggfaaGreatDoorBt35
import Derived.Test.YtmcnmoljliggfaaGreatDoorBtTopCutW
import Derived.Test.YtmcnmoljliggfaaGreatDoorBt37
import Derived.Test.YtmcnmoljliggfaaGreatDoorBt40
namespace Go.Proofs.YtmcnmoljliggfaaGreatDoor
open Go.RowKit
set_option maxRecDepth 100000
set_option maxHeartbeats 8000000
section
/-- An append within the capacity, in a region that draws its order. -/
theorem step_append_fits {P : Program} (w : World) {ops : Array Oper} {o : Oper} {a : Act} {K : Act → World → Prop} {Q : Exit → Act → World → Prop} {E : Prop} (hgd : o.guard = none) (s x : Operand) (t : TypeId)
    (ho : o.op = .call { callee := .builtin .append, args := #[s, x], argTypes := #[t, t] })
    (base : Nat) (e : TypeId) (i : TypeInfo) (size : Nat) (h1 : P.underlying t = some (.slice e)) (h2 : P.info? e = some i) (h4 : i.size = size)
    (g k cap : Nat) (xs : List Value) (hs : a.eval s = .slice (some ⟨g, 0, none⟩) k cap) (hown : w.ownsRow base e size (.slice (some ⟨g, 0, none⟩) k cap) k xs)
    (ad : Addr) (m c : Nat) (news : List Value) (hx : a.eval x = .slice (some ad) m c) (hn : news.length = m * size)
    (hc : ∀ j u, news[j]? = some u → w.cell? (ad.add j) = some u) (h1c : ∀ u ∈ news, u.oneCell' = true) (b1 : k + m ≤ cap)
    (hK : ∀ w', w'.ownsRow base e size (.slice (some ⟨g, 0, none⟩) (k + m) cap) (k + m) (xs ++ news) → w.grownBy w' (some g) → K (a.put o.dst (.slice (some ⟨g, 0, none⟩) (k + m) cap)) w') :
    if Region.wanted o (yielded ops a.tmps) = true then Oper.wp P o a w K Q else E := by
  have hw : Region.wanted o (yielded ops a.tmps) = true := by simp [Region.wanted, hgd]
  rw [if_pos hw]
  obtain ⟨w', hrun, r1, r2⟩ := run_append_fits (P := P) w base t o.type e i size h1 h2 h4 g k cap xs hown ad m c news hn hc h1c b1
  unfold Oper.wp
  simp [execOp, ho, resolve, invoke, builtin, hs, hx, hrun, Result.andThen]
  exact hK w' r1 r2
end
section
/-- An append within the capacity; the source reads as a list, nil or not. -/
theorem wpList_append_fits_reads {P : Program} (w : World) {ops : Array Oper} {rest : List Oper} {o : Oper} {a : Act} {Q : Exit → Act → World → Prop}
    (hg : o.guard = none) (s x : Operand) (t : TypeId) (hop : o.op = Op.call { callee := Callee.builtin Builtin.append, args := #[s, x], argTypes := #[t, t] })
    (base : Nat) (e : TypeId) (i : TypeInfo) (size : Nat) (h1 : P.underlying t = some (.slice e)) (h2 : P.info? e = some i) (h4 : i.size = size)
    (g k cap : Nat) (xs : List Value) (hs : a.eval s = .slice (some ⟨g, 0, none⟩) k cap) (hown : w.ownsRow base e size (.slice (some ⟨g, 0, none⟩) k cap) k xs)
    (B : Nat) (A : Option Addr) (m c : Nat) (news : List Value) (hx : a.eval x = .slice A m c) (hr : Reads w B size A m news) (h1c : ∀ u ∈ news, u.oneCell' = true) (b1 : k + m ≤ cap)
    (hK : ∀ w', w'.ownsRow base e size (.slice (some ⟨g, 0, none⟩) (k + m) cap) (k + m) (xs ++ news) → w.grownBy w' (some g) → wpList P ops Q rest (a.put o.dst (.slice (some ⟨g, 0, none⟩) (k + m) cap)) w') :
    wpList P ops Q (o :: rest) a w := by
  rcases Nat.eq_zero_or_pos m with hm | hm
  · subst hm
    have hn : news = [] := List.eq_nil_of_length_eq_zero (by simpa using hr.1)
    subst hn
    rcases A with _ | ad
    · refine wpList_plain hg fun K hK' => ?_
      have hrun := run_append_of_nil (P := P) w base t o.type e i size h1 h2 (.slice (some ⟨g, 0, none⟩) k cap) k xs hown c
      unfold Oper.wp
      simp [execOp, hop, resolve, invoke, builtin, hs, hx, hrun, Result.andThen]
      refine hK' _ _ ?_
      have := hK w (by simpa using hown) (World.grownBy.refl w _)
      simpa using this
    · exact wpList_append_fits w hg s x t hop base e i size h1 h2 h4 g k cap xs hs hown ad 0 c [] hx (by simp) (by simp) (by simp) b1 hK
  · obtain ⟨ad, rfl, _, hc⟩ := hr.2 hm
    exact wpList_append_fits w hg s x t hop base e i size h1 h2 h4 g k cap xs hs hown ad m c news hx hr.1 hc h1c b1 hK
end
section
variable {w w' : World} {B : Nat} {e e2 : TypeId} {size n1 size2 n2 : Nat} {v1 v2 : Value} {xs1 xs2 : List Value}
theorem below_grown {W : World} {C k : Nat} (hb : Below C W w) (hC2 : C ≤ w.heap.size) (hk : C ≤ k) (hg : w.grownBy w' (some k)) : Below C W w' :=
  hb.grown hg hC2 (fun j hj => by injection hj with hj; omega)
end
section
theorem TwinAt.below {w w' : World} {g : Nat} {xs : List Nat} (h : TwinAt w g xs) (hb : Below w.heap.size w w') : TwinAt w' g xs := ⟨h.blk.below hb h.blk.lt⟩
end
section
theorem cellsU_one (xs : List Nat) : ∀ u ∈ cellsU xs, u.oneCell' = true := by
  intro u hu
  simp [cellsU] at hu
  obtain ⟨a, _, rfl⟩ := hu
  rfl
end
section
theorem TwinAt.of_own {w : World} {base g : Nat} {xs : List Nat} (h : w.ownsRow base 109 1 (.slice (some ⟨g, 0, none⟩) (xs.length + 1) (xs.length + 1)) (xs.length + 1) (cellsU xs ++ [.int .u32 7777])) : TwinAt w g xs := by
  rcases h.2 with ⟨h1, h2⟩ | ⟨g', cap, cur, h1, h2, h3, h4, h5, h6, h7⟩
  · omega
  · injection h1 with a1 a2 a3
    injection a1 with a1
    injection a1 with a1
    subst a1 a3
    refine ⟨?_⟩
    unfold Blk
    rw [h3]
    have e : cur.toList = cellsU (xs ++ [7777]) := by
      rw [List.take_of_length_le (by rw [Array.length_toList]; omega)] at h7
      rw [h7]; simp [cellsU]
    rw [← e]
end
section
set_option maxRecDepth 100000 in
set_option maxHeartbeats 1000000 in
theorem twin_any (neg : Bool) (A : Option Addr) (c : Nat) (xs : List Nat) (w : World) (h : Raw w A c xs) (hl : xs.length ≤ 1048576) :
    Calls Tryz.prog 104 #[.agg #[.bool neg, .slice A xs.length c]] w fun e w' => ∃ g, e = .returned (.agg #[.bool neg, .slice (some ⟨g, 0, none⟩) xs.length (xs.length + 1)]) ∧ TwinAt w' g xs ∧ w.heap.size ≤ g ∧ Below w.heap.size w w' := by
  have HR := Lib.hid h
  have hcap := h.cap
  have hmost := h.most
  clear h
  obtain ⟨i0, hi, hz0, hz1, hz2⟩ := info_parts limbInfo
  have hmk : ∀ W : World, (Instr.makeSlice 23 (.int .i64 0) (.int .i64 ((xs.length : Int) + 1))).run Tryz.prog W = .ok (.slice (some ⟨W.heap.size, 0, none⟩) 0 (xs.length + 1)) (W.alloc (.cells (madeCells #[.int .u32 0] (xs.length + 1)) 109)) := fun W => by
    have h := run_make_rowN (P := Tryz.prog) 23 109 i0 _ Tryz.underlying23 hi hz0 .i64 .i64 0 (xs.length + 1) (by omega) (by rw [hz2]; omega) (by omega) W
    rw [show ((xs.length + 1 : Nat) : Int) = (xs.length : Int) + 1 by omega, hz1, Nat.mul_one] at h
    exact h
  have hW := (((Below.refl w.heap.size w).alloc (Nat.le_refl _) (.cells #[.bool neg, .slice A xs.length c] 25)).alloc (by simp) (.cells #[.bool false, .slice none 0 0] 25))
  have hbel0 := hW.alloc (by simp; omega) (.cells (madeCells #[.int .u32 0] (xs.length + 1)) 109)
  have hreads := (HR.out.reads).below hbel0
  have hbox := ((Pair.new w 25 (.bool neg) (.slice A xs.length c)).alloc (.cells #[.bool false, .slice none 0 0] 25)).alloc (.cells (madeCells #[.int .u32 0] (xs.length + 1)) 109)
  have hres := (Pair.new (w.alloc (.cells #[.bool neg, .slice A xs.length c] 25)) 25 (.bool false) (.slice none 0 0)).alloc (.cells (madeCells #[.int .u32 0] (xs.length + 1)) 109)
  have hmade := World.ownsRow_made (base := w.heap.size + 2) (size := 1) (e := 109) ((w.alloc (.cells #[.bool neg, .slice A xs.length c] 25)).alloc (.cells #[.bool false, .slice none 0 0] 25)) (madeCells #[.int .u32 0] (xs.length + 1)) (xs.length + 1) (by simp) (by unfold maxLen; omega) (by rw [size_madeCells, Nat.mul_one])
  simp only [World.size_alloc] at hres hmade
  clear hW
  go_enter Tryz.func104, Tryz.ntmps104
  go_wp2_with (at_builtin
               refine wpList_append_fits_reads _ rfl (.tmp 9) (.tmp 11) _ rfl (w.heap.size + 2) 109 i0 1 Tryz.underlying23 hi hz1 (w.heap.size + 1 + 1) 0 (xs.length + 1) [] rfl hmade w.heap.size A xs.length c (cellsU xs) rfl hreads (cellsU_one xs) (by omega) ?_
               intro w5 hown5 hgrow5)
  have hbx := hbox.grown hgrow5 (by simp; omega)
  have hrx := hres.grown hgrow5 (by simp)
  have hb5 := below_grown hbel0 (by simp; omega) (by omega) hgrow5
  have hz5 := hgrow5.size
  simp only [World.size_alloc] at hz5
  obtain ⟨l1, c0, c1, f0, f1⟩ := hbx.facts
  obtain ⟨l2, d0, d1, g0, g1⟩ := hrx.facts
  rw [Nat.zero_add, List.nil_append] at hown5
  have a1 : (0 : Int) ≤ (xs.length : Int) := by omega
  have a2 : (xs.length : Int) ≤ (xs.length : Int) + 1 := by omega
  clear hgrow5 hbox hres hmade hreads hbel0 hmk
  clear d0 d1 g0 g1
  go_region_held3 (fun w' => w'.cell? ⟨w.heap.size, 0, none⟩ = some (.bool neg) ∧ w'.cell? ⟨w.heap.size, 1, none⟩ = some (.slice A xs.length c))
    (first
      | go_keep
      | (go_split_ands
         refine ⟨?_, ?_⟩
         · (rw [hgrow6.cell_far _ (by simp; omega) (by simp; omega)]; assumption)
         · (rw [hgrow6.cell_far _ (by simp; omega) (by simp; omega)]; assumption)))
    ((refine step_append_fits _ (by rfl) (.tmp 15) (.tmp 16) _ (by rfl) (w.heap.size + 2) 109 i0 1 Tryz.underlying23 hi hz1 (w.heap.size + 1 + 1) xs.length (xs.length + 1) (cellsU xs) (by rfl) ((hown5.alloc _).drew) ⟨w5.heap.size, 0, none⟩ 1 1 [.int .u32 7777] (by rfl) (by rfl) (World.news_of_block (cs := #[.int .u32 7777]) (t := 109) (fr := (0, 0)) (heap_alloc_new w5 _)) (by simp [Value.oneCell']) (by omega) ?_; intro w6 hown6 hgrow6; have hrx6 := ((hrx.alloc _).drew).grown hgrow6 (by simp); have hb6 := below_grown ((hb5.alloc hb5.size (.cells #[.int .u32 7777] 109)).drew) (by simp; omega) (by omega) hgrow6; obtain ⟨m2, d0, d1, g0, g1⟩ := hrx6.facts))
  go_wp2
  have ht := TwinAt.of_own hown6
  have ht2 : TwinAt ((w6.setCell ⟨w.heap.size + 1, 0, none⟩ (.bool neg)).setCell ⟨w.heap.size + 1, 1, none⟩ (.slice (some ⟨w.heap.size + 1 + 1, 0, none⟩) xs.length (xs.length + 1))) (w.heap.size + 1 + 1) xs := ⟨ht.blk.far2 (by omega) _ _⟩
  have hq := hrx6.store (.bool neg) (.slice (some ⟨w.heap.size + 1 + 1, 0, none⟩) xs.length (xs.length + 1))
  obtain ⟨_, k0, k1, _, _⟩ := hq.facts
  exact bodyPost_ret (by simp [results, Tryz.results104, go_sem, k0, k1]) rfl ⟨_, rfl, ht2, by omega, below2 hb6 (by omega) _ _⟩
end
section
set_option maxRecDepth 100000 in
set_option maxHeartbeats 1000000 in
theorem frac_Sign_good (n d s : Int) (A B : Option Addr) (c e0 : Nat) (w : World) (h : Raw w A c (natL n.natAbs)) (g : Raw w B e0 (natL d.natAbs)) (hc : chkE (decide (n < 0)) (decide (d < 0)) (natL n.natAbs) (natL d.natAbs) = 0) (hs : s = n.sign) :
    Calls Tryz.prog 56 #[.agg #[.bool (decide (n < 0)), .slice A (natL n.natAbs).length c, .bool (decide (d < 0)), .slice B (natL d.natAbs).length e0]] w fun e w' => e = .returned (.int .i64 s) ∧ Below w.heap.size w w' := by
  have C1 := fun (V : World) (g' : Nat) (h : Raw V A c (natL n.natAbs)) (g : Raw V B e0 (natL d.natAbs)) (hg : V.heap.size = g') => checks_new (decide (n < 0)) (decide (d < 0)) A B c e0 _ _ V g' h g hg
  rw [hc] at C1
  have H1 := Lib.hid C1
  have H2 := Lib.hid (fun (V : World) (h : Raw V A c (natL n.natAbs)) => ratio_Sign n s d A B c e0 V h hs)
  clear C1 hc hs
  have px := Quad.new w (.bool (decide (n < 0))) (.slice A (natL n.natAbs).length c) (.bool (decide (d < 0))) (.slice B (natL d.natAbs).length e0)
  have b0 := (Below.refl w.heap.size w).alloc (Nat.le_refl _) (.cells #[.bool (decide (n < 0)), .slice A (natL n.natAbs).length c, .bool (decide (d < 0)), .slice B (natL d.natAbs).length e0] 27)
  have h1 := h.below b0
  have g1 := g.below b0
  have PX := Lib.hid px
  have B0 := Lib.hid b0
  have RX := Lib.hid h1
  have RY := Lib.hid g1
  clear px b0 h g h1 g1
  go_enter Tryz.func56, Tryz.ntmps56
  obtain ⟨W, E⟩ : ∃ W, W = w.alloc (.cells #[.bool (decide (n < 0)), .slice A (natL n.natAbs).length c, .bool (decide (d < 0)), .slice B (natL d.natAbs).length e0] 27) := ⟨_, rfl⟩
  go_upto_region 1 with fail
  rw [← E] at PX B0 RX RY ⊢
  clear E
  obtain ⟨l_x, a_x, b_x, c_x, d_x, -, -, -, -⟩ := PX.out.facts
  go_wp2_with fail
  refine (H1.out W _ RX.out RY.out rfl).mono ?_
  rintro e w1 ⟨rfl, hb⟩
  have PX := Lib.hid ((PX.out.alloc (.cells #[.bool (decide (n < 0)), .slice A (natL n.natAbs).length c, .bool (decide (d < 0)), .slice B (natL d.natAbs).length e0] 27)).below hb)
  have BB := Lib.hid (belowTo (B0.out.alloc B0.out.size (.cells #[.bool (decide (n < 0)), .slice A (natL n.natAbs).length c, .bool (decide (d < 0)), .slice B (natL d.natAbs).length e0] 27)) hb)
  have RX := Lib.hid ((RX.out.alloc (.cells #[.bool (decide (n < 0)), .slice A (natL n.natAbs).length c, .bool (decide (d < 0)), .slice B (natL d.natAbs).length e0] 27)).below hb)
  have RY := Lib.hid ((RY.out.alloc (.cells #[.bool (decide (n < 0)), .slice A (natL n.natAbs).length c, .bool (decide (d < 0)), .slice B (natL d.natAbs).length e0] 27)).below hb)
  clear B0 hb l_x a_x b_x c_x d_x
  obtain ⟨l_x, a_x, b_x, c_x, d_x, -, -, -, -⟩ := PX.out.facts
  go_wp2_with fail
  refine (H2.out w1 RX.out).mono ?_
  rintro e w2 ⟨rfl, hb⟩
  have HF := Lib.hid (belowTo BB.out hb)
  clear hb l_x a_x b_x c_x d_x
  go_wp2_with fail
  go_ret
  exact ⟨rfl, HF.out⟩
end
section
theorem blkFrac.of {b1 b2 : Bool} {A B : Option Addr} {k c l e g : Nat} (h : (Value.slice A k c).ownBlock = some g ∨ (Value.slice B l e).ownBlock = some g) : blkFrac (.agg #[.bool b1, .slice A k c, .bool b2, .slice B l e]) g := ⟨_, _, _, _, _, _, _, _, rfl, h⟩
end
section
theorem RB.gone {m : M2} {r : Rat × Rat} {D E : Int} {h k : Nat} (x : MB m D h) (y : RB r E k) : RB (rayM m r) (D * E) (h + k + 1) :=
  ⟨Int.mul_ne_zero x.ne y.ne, Nat.le_trans (lz_mul D E) (by have := x.den; have := y.den; omega), (x.a.mul y.y).add (x.b.mul y.u), (x.c.mul y.y).add (x.d.mul y.u)⟩
end
section
theorem RB.sz {r : Rat × Rat} {D : Int} {h : Nat} (x : RB r D h) : Sz r.1 h ∧ Sz r.2 h := ⟨x.y.sz x.ne x.den, x.u.sz x.ne x.den⟩
end
section
theorem BenchIn.below {w w' : World} {B : Nat} {A : Option Addr} {l : List ERaw} (h : BenchIn w B A l) (hb : Below w.heap.size w w') : BenchIn w' B A l := ⟨h.row.below (hb.mono h.le), Nat.le_trans h.le hb.size, fun x hx => (h.els x hx).below hb⟩
end
end Go.Proofs.YtmcnmoljliggfaaGreatDoor
