/- TwinFrac: the copy's rows are new and apart. (Written by wip/gauss/gentwin.py.) -/
import Derived.Test.YtmcnmoljliggfaaGreatDoorBvMore
namespace Go.Proofs.YtmcnmoljliggfaaGreatDoor
open Go.RowKit

/-- A copy of a number, in memory of its own. -/
structure TwinJ (b : Nat) (neg : Bool) (xs : List Nat) (v : Value) (V : World) : Prop where
  form : ∃ g, v = .agg #[.bool neg, .slice (some ⟨g, 0, none⟩) xs.length (xs.length + 1)] ∧ TwinAt V g xs ∧ b ≤ g
theorem TwinJ.kept {b : Nat} {neg : Bool} {xs : List Nat} {v : Value} {V V' : World} {B : Nat} {Ts : List TypeId} (h : TwinJ b neg xs v V) (k : KeptV B Ts V V') (hT : 109 ∉ Ts) : TwinJ b neg xs v V' := by
  obtain ⟨g, h1, h2, h3⟩ := h.form
  exact ⟨g, h1, ⟨k.blk h2.blk hT⟩, h3⟩
/-- A copy of a fraction. -/
structure TwinG (b : Nat) (n1 n2 : Bool) (xs ys : List Nat) (v : Value) (V : World) : Prop where
  form : ∃ g1 g2, v = .agg #[.bool n1, .slice (some ⟨g1, 0, none⟩) xs.length (xs.length + 1), .bool n2, .slice (some ⟨g2, 0, none⟩) ys.length (ys.length + 1)] ∧ TwinAt V g1 xs ∧ TwinAt V g2 ys ∧ b ≤ g1 ∧ b ≤ g2 ∧ g1 ≠ g2
theorem TwinG.kept {b : Nat} {n1 n2 : Bool} {xs ys : List Nat} {v : Value} {V V' : World} {B : Nat} {Ts : List TypeId} (h : TwinG b n1 n2 xs ys v V) (k : KeptV B Ts V V') (hT : 109 ∉ Ts) : TwinG b n1 n2 xs ys v V' := by
  obtain ⟨g1, g2, h1, h2, h3, h4⟩ := h.form
  exact ⟨g1, g2, h1, ⟨k.blk h2.blk hT⟩, ⟨k.blk h3.blk hT⟩, h4⟩
theorem TwinG.cells {b : Nat} {n1 n2 : Bool} {xs ys : List Nat} {v : Value} {V : World} (h : TwinG b n1 n2 xs ys v V) : CellsN v 4 := by
  obtain ⟨g1, g2, rfl, -⟩ := h.form
  exact ⟨rfl, by simp [Value.cells, Value.oneCell']⟩
theorem TwinG.below {b : Nat} {n1 n2 : Bool} {xs ys : List Nat} {v : Value} {V V' : World} (h : TwinG b n1 n2 xs ys v V) (k : Below V.heap.size V V') : TwinG b n1 n2 xs ys v V' := by
  obtain ⟨g1, g2, h1, h2, h3, h4⟩ := h.form
  exact ⟨g1, g2, h1, h2.below k, h3.below k, h4⟩

set_option maxRecDepth 100000 in
set_option maxHeartbeats 2000000 in
theorem twin_frac_own (n1 n2 : Bool) (A B : Option Addr) (c e0 : Nat) (xs ys : List Nat) (w : World) (h : Raw w A c xs) (g : Raw w B e0 ys) (hx : xs.length ≤ 1048576) (hy : ys.length ≤ 1048576) :
    Calls Tryz.prog 88 #[.agg #[.bool n1, .slice A xs.length c, .bool n2, .slice B ys.length e0]] w fun e w' => ∃ v, e = .returned v ∧ TwinG w.heap.size n1 n2 xs ys v w' ∧ Below w.heap.size w w' := by
  have px := (Quad.new w (.bool n1) (.slice A xs.length c) (.bool n2) (.slice B ys.length e0)).alloc (.cells #[.bool false, .slice none 0 0, .bool false, .slice none 0 0] 27)
  have pr := Quad.new (w.alloc (.cells #[.bool n1, .slice A xs.length c, .bool n2, .slice B ys.length e0] 27)) (.bool false) (.slice none 0 0) (.bool false) (.slice none 0 0)
  have b0 := ((Below.refl w.heap.size w).alloc (Nat.le_refl _) (.cells #[.bool n1, .slice A xs.length c, .bool n2, .slice B ys.length e0] 27)).alloc (by simp) (.cells #[.bool false, .slice none 0 0, .bool false, .slice none 0 0] 27)
  simp only [World.size_alloc] at pr
  have H1 := Lib.hid (fun (V : World) (h : Raw V A c xs) => twin_any n1 A c xs V h hx)
  have H2 := Lib.hid (fun (V : World) (h : Raw V B e0 ys) => twin_any n2 B e0 ys V h hy)
  have RW := Lib.hid h
  have KW := Lib.hid g
  have PX := Lib.hid px
  have PR := Lib.hid pr
  have HB := Lib.hid b0
  clear px pr b0 h g hx hy
  go_enter Tryz.func88, Tryz.ntmps88
  go_wp2_with fail
  obtain ⟨W, E⟩ : ∃ W, W = (w.alloc (.cells #[.bool n1, .slice A xs.length c, .bool n2, .slice B ys.length e0] 27)).alloc (.cells #[.bool false, .slice none 0 0, .bool false, .slice none 0 0] 27) := ⟨_, rfl⟩
  rw [← E] at PX PR HB ⊢
  clear E
  have hsz := PR.out.blk.lt
  refine wp_region_free [.val (.pointer (some ⟨w.heap.size, 0, none⟩)) [], .val (.agg #[.bool n1, .slice A xs.length c]) [], .any true (fun u V => TwinJ w.heap.size n1 xs u V) [], .val (.pointer (some ⟨w.heap.size, 2, none⟩)) [], .val (.agg #[.bool n2, .slice B ys.length e0]) [], .any true (fun u V => TwinJ w.heap.size n2 ys u V) [], .any false (fun u V => TwinG w.heap.size n1 n2 xs ys u V) [2, 5, 1002005], .old (w.heap.size + 1) 27 #[.bool false, .slice none 0 0, .bool false, .slice none 0 0] 0 4 6 []] (w.heap.size + 1) W [27] blkInt _ mixedOrders2 (by omega) (Below.refl _ _) (KeptV.refl _ _ _) rfl (by kernel_rfl) (by kernel_rfl) (by kernel_rfl) (by kernel_rfl) (by kernel_rfl) (by kernel_rfl) (by kernel_rfl) (by kernel_rfl) rfl (by simp [oldsF]) ?_ ?_ ?_ ?_
  · simp only [StableF, and_true]
    exact ⟨fun u V V' h k => h.kept k (by decide), fun u V V' h k => h.kept k (by decide), fun u V V' h k => h.kept k (by decide)⟩
  · simp only [OldsF, and_true]
    exact ⟨Nat.le_refl _, PR.out.blk.lt, PR.out.blk, by simp⟩
  · simp (maxSteps := 4000000) [StepsF, DepF, freeAct, fill, pairs]
    repeat' (first | apply And.intro | (intro (u : Value)) | (intro (u : Nat)))
    all_goals try exact ⟨_, _, _, rfl, rfl, rfl, rfl, fracInfo⟩
    all_goals first
    | (intro V hV hK
       have qx : Quad V w.heap.size _ _ _ _ := ⟨PX.out.blk.below hV (Nat.lt_succ_self _)⟩
       obtain ⟨-, a_x, b_x, c_x, d_x, -, -, -, -⟩ := qx.facts
       have rn := Lib.hid (RW.out.below (HB.out.trans (hV.mono (by omega))))
       have rd := Lib.hid (KW.out.below (HB.out.trans (hV.mono (by omega))))
       have hvs : w.heap.size ≤ V.heap.size := by have := hV.size; have := HB.out.size; omega
       clear hV hK qx
       go_simp
       first
       | exact Below.refl _ _
       | ((with_reducible refine (H1.out V rn.out).mono ?_); rintro e w' ⟨g, rfl, ht, hg, hb⟩; exact ⟨⟨g, rfl, ht, by omega⟩, hb, fun g' hg' => by cases hg'; exact ⟨hg, ht.blk.lt⟩⟩)
       | ((with_reducible refine (H2.out V rd.out).mono ?_); rintro e w' ⟨g, rfl, ht, hg, hb⟩; exact ⟨⟨g, rfl, ht, by omega⟩, hb, fun g' hg' => by cases hg'; exact ⟨hg, ht.blk.lt⟩⟩))
    | (intro V hV hK h1 h2 hq
       obtain ⟨g1, rfl, t1, l1⟩ := h1.form
       obtain ⟨g2, rfl, t2, l2⟩ := h2.form
       have hne : g1 ≠ g2 := fun e => hq g1 rfl (e ▸ rfl)
       clear hV hK h1 h2 hq
       go_simp
       exact ⟨⟨g1, g2, rfl, t1, t2, l1, l2, hne⟩, Below.refl _ _⟩)
    | exact fun _ _ _ (h : TwinG _ _ _ _ _ _ _) => h.cells
  · simp [EndF, FactsF, freeAct, fill, pairs]
    intro u1 u2 u3 V hV hK h1 h2 h3 bq hap _ _
    have HF := Lib.hid h3
    obtain ⟨g1, g2, rfl, -⟩ := h3.form
    simp [setAll, Value.cells] at bq
    have k0 := bq.cell 0
    have k1 := bq.cell 1
    have k2 := bq.cell 2
    have k3 := bq.cell 3
    simp at k0 k1 k2 k3
    have HB9 := Lib.hid (HB.out.trans (hV.mono (by omega)))
    clear h1 h2 h3 hV hK bq hap
    go_wp2_with fail
    exact bodyPost_ret (by simp [results, Tryz.results88, go_sem, k0, k1, k2, k3]) rfl ⟨_, rfl, HF.out, HB9.out⟩

theorem TwinG.mine {b : Nat} {n1 n2 : Bool} {xs ys : List Nat} {v : Value} {V : World} (h : TwinG b n1 n2 xs ys v V) : ∀ g, blkFrac v g → b ≤ g ∧ g < V.heap.size := by
  obtain ⟨g1, g2, rfl, h1, h2, l1, l2, -⟩ := h.form
  intro g hg
  rcases hg.at with e | e
  · cases e; exact ⟨l1, h1.blk.lt⟩
  · cases e; exact ⟨l2, h2.blk.lt⟩
theorem TwinG.base {a b : Nat} {n1 n2 : Bool} {xs ys : List Nat} {v : Value} {V : World} (h : TwinG b n1 n2 xs ys v V) (k : a ≤ b) : TwinG a n1 n2 xs ys v V := by
  obtain ⟨g1, g2, h1, h2, h3, l1, l2, h4⟩ := h.form
  exact ⟨g1, g2, h1, h2, h3, by omega, by omega, h4⟩
/-- A copy of a struct of two fractions: its four rows are new and apart. -/
structure TwinGG (b : Nat) (n1 n2 n3 n4 : Bool) (xs ys us vs : List Nat) (v : Value) (V : World) : Prop where
  form : ∃ g1 g2 g3 g4, v = .agg #[.bool n1, .slice (some ⟨g1, 0, none⟩) xs.length (xs.length + 1), .bool n2, .slice (some ⟨g2, 0, none⟩) ys.length (ys.length + 1), .bool n3, .slice (some ⟨g3, 0, none⟩) us.length (us.length + 1), .bool n4, .slice (some ⟨g4, 0, none⟩) vs.length (vs.length + 1)] ∧
    TwinAt V g1 xs ∧ TwinAt V g2 ys ∧ TwinAt V g3 us ∧ TwinAt V g4 vs ∧ (b ≤ g1 ∧ b ≤ g2 ∧ b ≤ g3 ∧ b ≤ g4) ∧ g1 ≠ g2 ∧ g3 ≠ g4 ∧ g1 ≠ g3 ∧ g1 ≠ g4 ∧ g2 ≠ g3 ∧ g2 ≠ g4
theorem TwinGG.kept {b : Nat} {n1 n2 n3 n4 : Bool} {xs ys us vs : List Nat} {v : Value} {V V' : World} {B : Nat} {Ts : List TypeId} (h : TwinGG b n1 n2 n3 n4 xs ys us vs v V) (k : KeptV B Ts V V') (hT : 109 ∉ Ts) : TwinGG b n1 n2 n3 n4 xs ys us vs v V' := by
  obtain ⟨g1, g2, g3, g4, h0, h1, h2, h3, h4, h5⟩ := h.form
  exact ⟨g1, g2, g3, g4, h0, ⟨k.blk h1.blk hT⟩, ⟨k.blk h2.blk hT⟩, ⟨k.blk h3.blk hT⟩, ⟨k.blk h4.blk hT⟩, h5⟩
theorem TwinGG.below {b : Nat} {n1 n2 n3 n4 : Bool} {xs ys us vs : List Nat} {v : Value} {V V' : World} (h : TwinGG b n1 n2 n3 n4 xs ys us vs v V) (k : Below V.heap.size V V') : TwinGG b n1 n2 n3 n4 xs ys us vs v V' := by
  obtain ⟨g1, g2, g3, g4, h0, h1, h2, h3, h4, h5⟩ := h.form
  exact ⟨g1, g2, g3, g4, h0, h1.below k, h2.below k, h3.below k, h4.below k, h5⟩
theorem TwinGG.cells {b : Nat} {n1 n2 n3 n4 : Bool} {xs ys us vs : List Nat} {v : Value} {V : World} (h : TwinGG b n1 n2 n3 n4 xs ys us vs v V) : CellsN v 8 := by
  obtain ⟨g1, g2, g3, g4, rfl, -⟩ := h.form
  exact ⟨rfl, by simp [Value.cells, Value.oneCell']⟩
/-- Two copies side by side, the second in memory apart from the first's. -/
theorem TwinGG.of {b : Nat} {n1 n2 n3 n4 : Bool} {xs ys us vs : List Nat} {g1 g2 g3 g4 : Nat} {V : World}
    (h : TwinG b n1 n2 xs ys (.agg #[.bool n1, .slice (some ⟨g1, 0, none⟩) xs.length (xs.length + 1), .bool n2, .slice (some ⟨g2, 0, none⟩) ys.length (ys.length + 1)]) V)
    (k : TwinG b n3 n4 us vs (.agg #[.bool n3, .slice (some ⟨g3, 0, none⟩) us.length (us.length + 1), .bool n4, .slice (some ⟨g4, 0, none⟩) vs.length (vs.length + 1)]) V)
    (hq : ∀ g, blkFrac (.agg #[.bool n1, .slice (some ⟨g1, 0, none⟩) xs.length (xs.length + 1), .bool n2, .slice (some ⟨g2, 0, none⟩) ys.length (ys.length + 1)]) g → ¬ blkFrac (.agg #[.bool n3, .slice (some ⟨g3, 0, none⟩) us.length (us.length + 1), .bool n4, .slice (some ⟨g4, 0, none⟩) vs.length (vs.length + 1)]) g) :
    TwinGG b n1 n2 n3 n4 xs ys us vs (.agg #[.bool n1, .slice (some ⟨g1, 0, none⟩) xs.length (xs.length + 1), .bool n2, .slice (some ⟨g2, 0, none⟩) ys.length (ys.length + 1), .bool n3, .slice (some ⟨g3, 0, none⟩) us.length (us.length + 1), .bool n4, .slice (some ⟨g4, 0, none⟩) vs.length (vs.length + 1)]) V := by
  obtain ⟨a1, a2, e, h1, h2, l1, l2, h3⟩ := h.form
  obtain ⟨a3, a4, e', k1, k2, m1, m2, k3⟩ := k.form
  simp at e e'
  obtain ⟨rfl, rfl⟩ := e
  obtain ⟨rfl, rfl⟩ := e'
  have p1 := hq g1 (.of (.inl rfl))
  have p2 := hq g2 (.of (.inr rfl))
  exact ⟨g1, g2, g3, g4, rfl, h1, h2, k1, k2, ⟨l1, l2, m1, m2⟩, h3, k3, fun e => p1 (.of (.inl (e ▸ rfl))), fun e => p1 (.of (.inr (e ▸ rfl))), fun e => p2 (.of (.inl (e ▸ rfl))), fun e => p2 (.of (.inr (e ▸ rfl)))⟩
end Go.Proofs.YtmcnmoljliggfaaGreatDoor
