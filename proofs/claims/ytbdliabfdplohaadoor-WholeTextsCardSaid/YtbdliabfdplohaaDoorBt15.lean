/- Several texts in one: Twin, Cmp. -/
import Derived.Test.YtbdliabfdplohaaDoorBt14
import Derived.Test.YtbdliabfdplohaaDoorBtHd
set_option maxRecDepth 100000
set_option maxHeartbeats 8000000
/- Beyond, IntSize, TwinInt, LeftInt: what the statements copy, and whether a copy is still what it was made of. -/
namespace Go.Proofs.YtbdliabfdplohaaDoor
open Go.RowKit

theorem intSize_any (neg : Bool) (A : Option Addr) (c n : Nat) (hn : n ≤ 1152921504606846975) (w : World) :
    Calls Tryd.prog 6 #[.agg #[.bool neg, .slice A n c]] w fun e w' => e = .returned (.int .i64 ((1 + n : Nat) : Int)) ∧ Below w.heap.size w w' := by
  go_enter Tryd.func6, Tryd.ntmps6
  go_wp2
  go_ret
  exact ⟨by go_num, by repeat (first | exact Below.refl _ _ | refine Below.alloc ?_ (by simp; try omega) _)⟩

structure TwinAt (w : World) (g : Nat) (xs : List Nat) : Prop where
  blk : Blk w g 40 (cellsU (xs ++ [7777])).toArray
theorem TwinAt.below {w w' : World} {g : Nat} {xs : List Nat} (h : TwinAt w g xs) (hb : Below w.heap.size w w') : TwinAt w' g xs := ⟨h.blk.below hb h.blk.lt⟩
theorem TwinAt.alloc {w : World} {g : Nat} {xs : List Nat} (h : TwinAt w g xs) (o : Obj) : TwinAt (w.alloc o) g xs := ⟨h.blk.alloc o⟩
theorem TwinAt.cell {w : World} {g : Nat} {xs : List Nat} (h : TwinAt w g xs) {k : Nat} (hk : k < xs.length) : w.cell? ⟨g, k, none⟩ = some (.int .u32 xs[k]) := by
  rw [h.blk.cell, List.getElem?_toArray, cellsU_get (by simp; omega), List.getElem_append_left hk]
theorem TwinAt.mark {w : World} {g : Nat} {xs : List Nat} (h : TwinAt w g xs) : w.cell? ⟨g, xs.length, none⟩ = some (.int .u32 7777) := by
  rw [h.blk.cell]
  simp [cellsU]
theorem TwinAt.raw {w : World} {g : Nat} {xs : List Nat} (hx : Limbs xs) (hl : xs.length < 9223372036854775807) (h : TwinAt w g xs) : Raw w (some ⟨g, 0, none⟩) (xs.length + 1) xs := by
  refine ⟨hx, Nat.le_succ _, by omega, by rw [cellsU_length, Nat.mul_one], fun _ => ⟨⟨g, 0, none⟩, rfl, h.blk.lt, fun j u hu => ?_⟩⟩
  have hj : j < xs.length := by
    have := (List.getElem?_eq_some_iff.1 hu).1
    rwa [cellsU_length] at this
  rw [cellsU_get hj] at hu
  have e : (⟨g, 0, none⟩ : Addr).add j = ⟨g, j, none⟩ := by unfold Addr.add; split <;> simp_all
  rw [e, ← hu]
  exact h.cell hj

theorem cellsU_one (xs : List Nat) : ∀ u ∈ cellsU xs, u.oneCell' = true := by
  intro u hu
  simp [cellsU] at hu
  obtain ⟨a, _, rfl⟩ := hu
  rfl

theorem TwinAt.of_own {w : World} {base g : Nat} {xs : List Nat} (h : w.ownsRow base 40 1 (.slice (some ⟨g, 0, none⟩) (xs.length + 1) (xs.length + 1)) (xs.length + 1) (cellsU xs ++ [.int .u32 7777])) : TwinAt w g xs := by
  rcases h.2 with ⟨h1, h2⟩ | ⟨g', cap, cur, h1, h2, h3, h4, h5, h6, h7⟩
  · omega
  · injection h1 with a1 a2 a3
    injection a1 with a1
    injection a1 with a1
    subst a1 a3
    refine ⟨?_⟩
    unfold Blk
    rw [h3]
    have e : cur.toList = cellsU (xs ++ [7777]) := by
      rw [List.take_of_length_le (by rw [Array.length_toList]; omega)] at h7
      rw [h7]; simp [cellsU]
    rw [← e]

theorem twin_any (neg : Bool) (A : Option Addr) (c : Nat) (xs : List Nat) (w : World) (h : Raw w A c xs) (hl : xs.length ≤ 1048576) :
    Calls Tryd.prog 7 #[.agg #[.bool neg, .slice A xs.length c]] w fun e w' => ∃ g, e = .returned (.agg #[.bool neg, .slice (some ⟨g, 0, none⟩) xs.length (xs.length + 1)]) ∧ TwinAt w' g xs ∧ w.heap.size ≤ g ∧ Below w.heap.size w w' := by
  have HR := Hd h
  have hcap := h.cap
  have hmost := h.most
  clear h
  obtain ⟨i0, hi, hz0, hz1, hz2⟩ := info_parts limbInfo
  have hmk : ∀ W : World, (Instr.makeSlice 22 (.int .i64 0) (.int .i64 ((xs.length : Int) + 1))).run Tryd.prog W = .ok (.slice (some ⟨W.heap.size, 0, none⟩) 0 (xs.length + 1)) (W.alloc (.cells (madeCells #[.int .u32 0] (xs.length + 1)) 40)) := fun W => by
    have h := run_make_rowN (P := Tryd.prog) 22 40 i0 _ Tryd.underlying22 hi hz0 .i64 .i64 0 (xs.length + 1) (by omega) (by rw [hz2]; omega) (by omega) W
    rw [show ((xs.length + 1 : Nat) : Int) = (xs.length : Int) + 1 by omega, hz1, Nat.mul_one] at h
    exact h
  have hW := (((Below.refl w.heap.size w).alloc (Nat.le_refl _) (.cells #[.bool neg, .slice A xs.length c] 24)).alloc (by simp) (.cells #[.bool false, .slice none 0 0] 24))
  have hbel0 := hW.alloc (by simp; omega) (.cells (madeCells #[.int .u32 0] (xs.length + 1)) 40)
  have hreads := (HR.out.reads).below hbel0
  have hbox := ((Pair.new w 24 (.bool neg) (.slice A xs.length c)).alloc (.cells #[.bool false, .slice none 0 0] 24)).alloc (.cells (madeCells #[.int .u32 0] (xs.length + 1)) 40)
  have hres := (Pair.new (w.alloc (.cells #[.bool neg, .slice A xs.length c] 24)) 24 (.bool false) (.slice none 0 0)).alloc (.cells (madeCells #[.int .u32 0] (xs.length + 1)) 40)
  have hmade := World.ownsRow_made (base := w.heap.size + 2) (size := 1) (e := 40) ((w.alloc (.cells #[.bool neg, .slice A xs.length c] 24)).alloc (.cells #[.bool false, .slice none 0 0] 24)) (madeCells #[.int .u32 0] (xs.length + 1)) (xs.length + 1) (by simp) (by unfold maxLen; omega) (by rw [size_madeCells, Nat.mul_one])
  simp only [World.size_alloc] at hres hmade
  clear hW
  go_enter Tryd.func7, Tryd.ntmps7
  go_wp2_with (at_builtin
               refine wpList_append_fits_reads _ rfl (.tmp 9) (.tmp 11) _ rfl (w.heap.size + 2) 40 i0 1 Tryd.underlying22 hi hz1 (w.heap.size + 1 + 1) 0 (xs.length + 1) [] rfl hmade w.heap.size A xs.length c (cellsU xs) rfl hreads (cellsU_one xs) (by omega) ?_
               intro w5 hown5 hgrow5)
  have hbx := hbox.grown hgrow5 (by simp; omega)
  have hrx := hres.grown hgrow5 (by simp)
  have hb5 := below_grown hbel0 (by simp; omega) (by omega) hgrow5
  have hz5 := hgrow5.size
  simp only [World.size_alloc] at hz5
  obtain ⟨l1, c0, c1, f0, f1⟩ := hbx.facts
  obtain ⟨l2, d0, d1, g0, g1⟩ := hrx.facts
  rw [Nat.zero_add, List.nil_append] at hown5
  have a1 : (0 : Int) ≤ (xs.length : Int) := by omega
  have a2 : (xs.length : Int) ≤ (xs.length : Int) + 1 := by omega
  clear hgrow5 hbox hres hmade hreads hbel0 hmk
  clear d0 d1 g0 g1
  go_region_held3 (fun w' => w'.cell? ⟨w.heap.size, 0, none⟩ = some (.bool neg) ∧ w'.cell? ⟨w.heap.size, 1, none⟩ = some (.slice A xs.length c))
    (first
      | go_keep
      | (go_split_ands
         refine ⟨?_, ?_⟩
         · (rw [hgrow6.cell_far _ (by simp; omega) (by simp; omega)]; assumption)
         · (rw [hgrow6.cell_far _ (by simp; omega) (by simp; omega)]; assumption)))
    ((refine step_append_fits _ (by rfl) (.tmp 15) (.tmp 16) _ (by rfl) (w.heap.size + 2) 40 i0 1 Tryd.underlying22 hi hz1 (w.heap.size + 1 + 1) xs.length (xs.length + 1) (cellsU xs) (by rfl) ((hown5.alloc _).drew) ⟨w5.heap.size, 0, none⟩ 1 1 [.int .u32 7777] (by rfl) (by rfl) (World.news_of_block (cs := #[.int .u32 7777]) (t := 40) (fr := (0, 0)) (heap_alloc_new w5 _)) (by simp [Value.oneCell']) (by omega) ?_; intro w6 hown6 hgrow6; have hrx6 := ((hrx.alloc _).drew).grown hgrow6 (by simp); have hb6 := below_grown ((hb5.alloc hb5.size (.cells #[.int .u32 7777] 40)).drew) (by simp; omega) (by omega) hgrow6; obtain ⟨m2, d0, d1, g0, g1⟩ := hrx6.facts))
  go_wp2
  have ht := TwinAt.of_own hown6
  have ht2 : TwinAt ((w6.setCell ⟨w.heap.size + 1, 0, none⟩ (.bool neg)).setCell ⟨w.heap.size + 1, 1, none⟩ (.slice (some ⟨w.heap.size + 1 + 1, 0, none⟩) xs.length (xs.length + 1))) (w.heap.size + 1 + 1) xs := ⟨ht.blk.far2 (by omega) _ _⟩
  have hq := hrx6.store (.bool neg) (.slice (some ⟨w.heap.size + 1 + 1, 0, none⟩) xs.length (xs.length + 1))
  obtain ⟨_, k0, k1, _, _⟩ := hq.facts
  exact bodyPost_ret (by simp [results, Tryd.results7, go_sem, k0, k1]) rfl ⟨_, rfl, ht2, by omega, below2 hb6 (by omega) _ _⟩

theorem left_any (neg : Bool) (A : Option Addr) (c g : Nat) (xs : List Nat) (w : World) (h : Raw w A c xs) (ht : TwinAt w g xs) (hl : xs.length ≤ 1048576) :
    Calls Tryd.prog 13 #[.agg #[.bool neg, .slice (some ⟨g, 0, none⟩) xs.length (xs.length + 1)], .agg #[.bool neg, .slice A xs.length c]] w fun e w' => e = .returned (.bool true) ∧ Below w.heap.size w w' := by
  have h0 := (h.alloc (.cells #[.bool neg, .slice (some ⟨g, 0, none⟩) xs.length (xs.length + 1)] 24)).alloc (.cells #[.bool neg, .slice A xs.length c] 24)
  have t0 := (ht.alloc (.cells #[.bool neg, .slice (some ⟨g, 0, none⟩) xs.length (xs.length + 1)] 24)).alloc (.cells #[.bool neg, .slice A xs.length c] 24)
  have p0 := (Pair.new w 24 (.bool neg) (.slice (some ⟨g, 0, none⟩) xs.length (xs.length + 1))).alloc (.cells #[.bool neg, .slice A xs.length c] 24)
  have q0 := Pair.new (w.alloc (.cells #[.bool neg, .slice (some ⟨g, 0, none⟩) xs.length (xs.length + 1)] 24)) 24 (.bool neg) (.slice A xs.length c)
  have b0 := ((Below.refl w.heap.size w).alloc (Nat.le_refl _) (.cells #[.bool neg, .slice (some ⟨g, 0, none⟩) xs.length (xs.length + 1)] 24)).alloc (by simp) (.cells #[.bool neg, .slice A xs.length c] 24)
  simp only [World.size_alloc] at q0
  go_enter Tryd.func13, Tryd.ntmps13
  go_wp2_with fail
  obtain ⟨W, E⟩ : ∃ W, W = (w.alloc (.cells #[.bool neg, .slice (some ⟨g, 0, none⟩) xs.length (xs.length + 1)] 24)).alloc (.cells #[.bool neg, .slice A xs.length c] 24) := ⟨_, rfl⟩
  rw [← E] at h0 t0 p0 q0 b0 ⊢
  clear E h ht
  have hraw := t0.raw h0.limbs (by omega)
  have D1 := fun (V : World) (hV : Below W.heap.size W V) => same_any neg neg (some ⟨g, 0, none⟩) A (xs.length + 1) c xs xs V (hraw.below hV) (h0.below hV)
  rw [show decide (neg = neg ∧ xs = xs) = true by simp] at D1
  have H1 := Hd D1
  have hm := t0.mark
  have hg := t0.blk.lt
  obtain ⟨l1, c0, c1, -, -⟩ := p0.facts
  obtain ⟨l2, d0, d1, -, -⟩ := q0.facts
  have a1 : (0 : Int) ≤ (xs.length : Int) := by omega
  have a2 : (xs.length : Int) < (xs.length : Int) + 1 := by omega
  have a3 : (xs.length : Int) + 1 ≤ (xs.length : Int) + 1 := by omega
  have a4 : IntKind.i64.wrap ((xs.length : Int) + 1) = (xs.length : Int) + 1 := IntWalk.i64_in _ (by omega)
  have a5 : (0 : Int) ≤ (xs.length : Int) + 1 := by omega
  clear D1 h0 t0 hraw p0 q0
  generalize xs.length = n at *
  go_region_held3 (fun w' => Below W.heap.size W w' ∧ ∀ b o, b < W.heap.size → w'.cell? ⟨b, o, none⟩ = W.cell? ⟨b, o, none⟩)
    (first
      | exact ⟨(Below.refl _ _).drew, fun _ _ _ => rfl⟩
      | (obtain ⟨q, _⟩ := ‹Below W.heap.size W _ ∧ _›; have q' := belowTo q hbx; exact ⟨q', fun b o h => q'.cell (p := ⟨b, o, none⟩) h⟩))
    (first
      | (go_at_call 16; with_reducible refine (H1.out _ ?_).mono ?_; exact (‹Below W.heap.size W _ ∧ _›).1; rintro e wx ⟨rfl, hbx⟩))
  obtain ⟨q, _⟩ := ‹Below W.heap.size W _ ∧ _›
  go_wp2
  go_ret
  exact ⟨rfl, b0.trans (q.mono b0.size)⟩
/- Numbers held against one another. -/

def cmpv (a b : Nat) : Int := if a < b then -1 else if b < a then 1 else 0
def SizeTold (xs ys : List Nat) (w : World) (e : Ending) (w' : World) : Prop :=
  ∃ z : Int, e = .returned (.int .i64 z) ∧ -4611686018427387904 ≤ z ∧ z ≤ 4611686018427387904 ∧ (val xs < val ys → z < 0) ∧ (val xs = val ys → z = 0) ∧ (val ys < val xs → 0 < z) ∧ Below w.heap.size w w'

end Go.Proofs.YtbdliabfdplohaaDoor
