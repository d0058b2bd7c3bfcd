/- Contracts of the document's matrices: Power, Chain, over any ring of things. -/
import Derived.Test.YtalalbhhlbeghaaRef08c
import Derived.Test.YtalalbhhlbeghaaBits
namespace Go.Proofs.Ytalalbhhlbeghaa
open Go.RowKit
attribute [local go_sem] run_store_complex

/-- Block g holds a matrix of kind k. -/
structure HasR (k : Int) (w : World) (g : Nat) (m : M4) : Prop where
  blk : Blk w g 60 (matC k m)
/-- Block g is a matrix's. -/
structure RoomR (w : World) (g : Nat) : Prop where
  blk : ∃ z, Blk w g 60 z ∧ z.size = 12
theorem HasR.room {k : Int} {w : World} {g : Nat} {m : M4} (h : HasR k w g m) : RoomR w g := ⟨_, h.blk, rfl⟩
theorem HasR.below {k : Int} {w w' : World} {g : Nat} {m : M4} (h : HasR k w g m) (hb : Below w.heap.size w w') : HasR k w' g m := ⟨h.blk.below hb h.blk.lt⟩
theorem RoomR.below {w w' : World} {g : Nat} (h : RoomR w g) (hb : Below w.heap.size w w') : RoomR w' g := by
  obtain ⟨z, h1, h2⟩ := h.blk
  exact ⟨z, h1.below hb h1.lt, h2⟩
theorem HasR.alloc {k : Int} {w : World} {g : Nat} {m : M4} (h : HasR k w g m) (o : Obj) : HasR k (w.alloc o) g m := ⟨h.blk.alloc o⟩
theorem RoomR.alloc {w : World} {g : Nat} (h : RoomR w g) (o : Obj) : RoomR (w.alloc o) g := by
  obtain ⟨z, h1, h2⟩ := h.blk
  exact ⟨z, h1.alloc o, h2⟩
theorem RoomR.lt {w : World} {g : Nat} (h : RoomR w g) : g < w.heap.size := by
  obtain ⟨z, h1, _⟩ := h.blk
  exact h1.lt
/-- A matrix stored. -/
def putR (k : Int) (w : World) (g : Nat) (m : M4) : World := w.setCells g 0 (matC k m).toList
theorem HasR.put {k : Int} {w : World} {g : Nat} (m : M4) (h : RoomR w g) : HasR k (putR k w g m) g m := by
  obtain ⟨z, h1, h2⟩ := h.blk
  have := h1.setCells (matC k m).toList 0
  rw [setAll_all _ _ h2] at this
  exact ⟨this⟩
theorem HasR.far {k j : Int} {w : World} {g g' : Nat} {m : M4} (n : M4) (h : HasR k w g m) (hn : g ≠ g') : HasR k (putR j w g' n) g m := ⟨h.blk.setCells_far hn _ _ _⟩
theorem RoomR.far {j : Int} {w : World} {g g' : Nat} (n : M4) (h : RoomR w g) (hn : g ≠ g') : RoomR (putR j w g' n) g := by
  obtain ⟨z, h1, h2⟩ := h.blk
  exact ⟨z, h1.setCells_far hn _ _ _, h2⟩
theorem below_putR {k : Int} {W w : World} {B g : Nat} (m : M4) (h : Below B W w) (hg : B ≤ g) : Below B W (putR k w g m) := below_setCells hg _ _ _ h
theorem putR_size {k : Int} {w : World} {g : Nat} (m : M4) : (putR k w g m).heap.size = w.heap.size := by
  have : ∀ (l : List Value) (o : Nat) (w : World), (w.setCells g o l).heap.size = w.heap.size := by
    intro l
    induction l with
    | nil => intro o w; rfl
    | cons v l ih => intro o w; show ((w.setCell _ v).setCells g (o + 1) l).heap.size = _; rw [ih]; simp
  exact this _ _ _
theorem wpList_load_R {ops : Array Oper} {rest : List Oper} {o : Oper} {a : Act} {w : World} {Q : Exit → Act → World → Prop} (hgd : o.guard = none) (x : Operand) (ho : o.op = .load 60 x)
    (k : Int) (g : Nat) (m : M4) (hx : a.eval x = .pointer (some ⟨g, 0, none⟩)) (h : HasR k w g m) (hK : wpList Try.prog ops Q rest (a.put o.dst (matR k m)) w) : wpList Try.prog ops Q (o :: rest) a w :=
  wpList_load_row hgd _ x ho g hx _ _ _ _ h.blk Try.underlying60 rfl matInfoR hK
/-- What a matrix's store leaves. -/
structure PutR (k : Int) (w : World) (g : Nat) (m : M4) (w' : World) : Prop where
  eq : w' = putR k w g m
theorem PutR.has {k : Int} {w w' : World} {g : Nat} {m : M4} (h : PutR k w g m w') (hr : RoomR w g) : HasR k w' g m := by rw [h.eq]; exact HasR.put m hr
theorem PutR.far {k j : Int} {w w' : World} {g g' : Nat} {m n : M4} (h : PutR k w g m w') (hr : HasR j w g' n) (hn : g' ≠ g) : HasR j w' g' n := by rw [h.eq]; exact hr.far m hn
theorem PutR.room {k : Int} {w w' : World} {g g' : Nat} {m : M4} (h : PutR k w g m w') (hr : RoomR w g') (hn : g' ≠ g) : RoomR w' g' := by rw [h.eq]; exact hr.far m hn
theorem PutR.below {k : Int} {W w w' : World} {B g : Nat} {m : M4} (h : PutR k w g m w') (hb : Below B W w) (hg : B ≤ g) : Below B W w' := by rw [h.eq]; exact below_putR m hb hg
theorem wpList_store_R {ops : Array Oper} {rest : List Oper} {o : Oper} {a : Act} {w : World} {Q : Exit → Act → World → Prop} (hgd : o.guard = none) (x y : Operand) (ho : o.op = .store 60 x y) (hd : o.dst = none)
    (k : Int) (g : Nat) (m : M4) (hx : a.eval x = .pointer (some ⟨g, 0, none⟩)) (hy : a.eval y = matR k m) (h : RoomR w g) (hK : ∀ w', PutR k w g m w' → wpList Try.prog ops Q rest a w') : wpList Try.prog ops Q (o :: rest) a w := by
  obtain ⟨z, h1, h2⟩ := h.blk
  have ht := h1.there
  rw [h2] at ht
  exact wpList_store_mid hgd _ x y ho g 0 (matC k m) hx hy ht matInfoR (by kernel_rfl) (by rw [hd]; exact hK _ ⟨rfl⟩)

theorem gpow_half {R : Rng} {f : Nat} {r s s' : M4} {n : Nat} (h : n / 2 = 0) : M4.gpow R (f + 1) r s (n / 2) = M4.gpow R (f + 1) r s' (n / 2) := by rw [h, M4.gpow_stop, M4.gpow_stop]

set_option maxRecDepth 100000 in
set_option maxHeartbeats 600000 in
theorem r_Power {k : Int} {R : Rng} (H : RefRing k R) (one m : M4) (n : Nat) (hn : n ≤ 18446744073709551615) (w : World) :
    Calls Try.prog 34 #[matR k one, matR k m, .int .u64 n] w fun e w' => e = .returned (matR k (M4.gpow R 65 one m n)) ∧ Below w.heap.size w w' := by
  have HR := Lib.hid H
  clear H
  obtain ⟨T, h0⟩ : ∃ T, T = M4.gpow R 65 one m n := ⟨_, rfl⟩
  rw [← h0]
  have H0 : Hid (T = M4.gpow R (64 + 1) one m n) := Lib.hid h0
  clear h0
  go_enter Try.func34, Try.ntmps34
  go_wp2_with fail
  have hfix : n < 2 ^ 64 := by omega
  have HN := Lib.hid hfix
  clear hfix
  go_loopw [2] (fun v wr => ∃ (r s : M4) (j f : Nat), v = .int .u64 j ∧ j ≤ 18446744073709551615 ∧ j < 2 ^ f ∧ T = M4.gpow R (f + 1) r s j ∧ RoomR wr (w.heap.size + 1 + 1) ∧ HasR k wr (w.heap.size + 1 + 1 + 1) r ∧ HasR k wr (w.heap.size + 1 + 1 + 1 + 1) s ∧ Below w.heap.size w wr) (fun v _ => (intOf v).toNat)
  case atStart =>
    refine ⟨one, m, n, 64, rfl, hn, HN.out, H0.out, ?_, ?_, ?_, ?_⟩
    · have h := ((Blk.new ((w.alloc (.cells (matC k one) 60)).alloc (.cells (matC k m) 60)) 60 (matC 0 ⟨0, 0, 0, 0⟩)).alloc (.cells (matC k one) 60)).alloc (.cells (matC k m) 60)
      simp only [World.size_alloc] at h
      exact ⟨_, h, rfl⟩
    · have h := (Blk.new (((w.alloc (.cells (matC k one) 60)).alloc (.cells (matC k m) 60)).alloc (.cells (matC 0 ⟨0, 0, 0, 0⟩) 60)) 60 (matC k one)).alloc (.cells (matC k m) 60)
      simp only [World.size_alloc] at h
      exact ⟨h⟩
    · have h := Blk.new ((((w.alloc (.cells (matC k one) 60)).alloc (.cells (matC k m) 60)).alloc (.cells (matC 0 ⟨0, 0, 0, 0⟩) 60)).alloc (.cells (matC k one) 60)) 60 (matC k m)
      simp only [World.size_alloc] at h
      exact ⟨h⟩
    · repeat (first | exact Below.refl _ _ | refine Below.alloc ?_ (by simp; try omega) _)
  case round =>
    obtain ⟨r, s, j, f, rfl, hj, hf, hp, hq, hr, hs, hb⟩ := hrel
    have HP := Lib.hid hp
    have HF := Lib.hid hf
    clear hp hf
    by_cases hz : j = 0
    · have hp := HP.out
      have hz0 : ¬ (0 : Int) < (j : Int) := by omega
      rw [hz, M4.gpow_stop] at hp
      have HE := Lib.hid hp
      clear hp hz HP HF
      go_wp2_with (first | (refine wpList_load_R rfl _ (by rfl) k _ _ (by rfl) hr ?_) | (refine wpList_store_R rfl _ _ (by rfl) (by rfl) k _ r (by rfl) (by rfl) hq ?_; intro w9 hput))
      have hres := (hput.has hq).blk
      exact bodyPost_ret (results_cell_row Try.results34 _ _ _ _ _ _ _ rfl hres Try.underlying60 rfl matInfoR) rfl ⟨by rw [HE.out], hput.below hb (by omega)⟩
    · have hp := HP.out
      obtain ⟨g, rfl⟩ : ∃ g, f = g + 1 := by
        cases f with
        | zero => have := HF.out; simp at this; omega
        | succ g => exact ⟨g, rfl⟩
      rw [M4.gpow_more _ _ _ _ _ hz] at hp
      have hg : j / 2 < 2 ^ g := by have := HF.out; rw [Nat.pow_succ] at this; omega
      have HG := Lib.hid hg
      have hpos : (0 : Int) < (j : Int) := by omega
      have hhalf : (j : Int) / 2 = ((j / 2 : Nat) : Int) := by omega
      have HH := Lib.hid hhalf
      clear hg HF HP hhalf
      by_cases hbit : j % 2 = 1
      · rw [if_pos hbit] at hp
        have C1 := fun V => r_Mul HR.out s r V
        generalize M4.gmul R s r = X at hp C1
        have HC := Lib.hid C1
        have HE := Lib.hid hp
        have hbt : ((j : Int) % 2 == 1) = true := by simp; omega
        clear hp hbit hz C1
        go_wp2_with (first | (refine wpList_load_R rfl _ (by rfl) k _ _ (by rfl) hr ?_) | (refine wpList_load_R rfl _ (by rfl) k _ _ (by rfl) hs ?_))
        refine (HC.out _).mono ?_
        rintro e V ⟨rfl, hV⟩
        dsimp only
        have hq := hq.below hV
        have hr := hr.below hV
        have hs := hs.below hV
        have hb := belowTo hb hV
        have hrm := hr.room
        have hlt := hr.room.lt
        clear hV
        by_cases hz2 : j / 2 = 0
        · have hz3 : ¬ (0 : Int) < (j : Int) / 2 := by omega
          have HZ := Lib.hid hz2
          clear hz2
          go_wp2_with (first | (refine wpList_store_R rfl _ _ (by rfl) (by rfl) k _ X (by rfl) (by rfl) hrm ?_; intro w9 hput))
          go_roundw
          case rel =>
            exact ⟨X, s, j / 2, g, by rw [HH.out], by omega, HG.out, HE.out.trans (gpow_half HZ.out), hput.room hq (by omega), hput.has hrm, hput.far hs (by omega), hput.below hb (by omega)⟩
          case measure => simp [intOf]; omega
        · have hz3 : (0 : Int) < (j : Int) / 2 := by omega
          clear hz2
          have C2 := fun V => r_Mul HR.out s s V
          have he := HE.out
          generalize M4.gmul R s s = Y at he C2
          have HC2 := Lib.hid C2
          have HE2 := Lib.hid he
          clear C2 he
          go_wp2_with (first | (refine wpList_store_R rfl _ _ (by rfl) (by rfl) k _ X (by rfl) (by rfl) hrm ?_; intro w9 hput; have hs2 := hput.far hs (by omega)) | (refine wpList_load_R rfl _ (by rfl) k _ _ (by rfl) hs2 ?_))
          refine (HC2.out _).mono ?_
          rintro e V2 ⟨rfl, hV⟩
          dsimp only
          have hq := (hput.room hq (by omega)).below hV
          have hr := (hput.has hrm).below hV
          have hs := hs2.below hV
          have hb := belowTo (hput.below hb (by omega)) hV
          have hsm := hs.room
          clear hV hs2 hrm hput
          go_wp2_with (first | (refine wpList_store_R rfl _ _ (by rfl) (by rfl) k _ Y (by rfl) (by rfl) hsm ?_; intro w9 hput))
          go_roundw
          case rel =>
            exact ⟨X, Y, j / 2, g, by rw [HH.out], by omega, HG.out, HE2.out, hput.room hq (by omega), hput.far hr (by omega), hput.has hsm, hput.below hb (by omega)⟩
          case measure => simp [intOf]; omega
      · rw [if_neg hbit] at hp
        have HE := Lib.hid hp
        have hbt : ((j : Int) % 2 == 1) = false := by simp; omega
        clear hp hbit hz
        by_cases hz2 : j / 2 = 0
        · have hz3 : ¬ (0 : Int) < (j : Int) / 2 := by omega
          have HZ := Lib.hid hz2
          clear hz2
          go_wp2_with fail
          go_roundw
          case rel =>
            exact ⟨r, s, j / 2, g, by rw [HH.out], by omega, HG.out, HE.out.trans (gpow_half HZ.out), hq, hr, hs, hb⟩
          case measure => simp [intOf]; omega
        · have hz3 : (0 : Int) < (j : Int) / 2 := by omega
          clear hz2
          have C2 := fun V => r_Mul HR.out s s V
          have he := HE.out
          generalize M4.gmul R s s = Y at he C2
          have HC2 := Lib.hid C2
          have HE2 := Lib.hid he
          clear C2 he
          go_wp2_with (first | (refine wpList_load_R rfl _ (by rfl) k _ _ (by rfl) hs ?_))
          refine (HC2.out _).mono ?_
          rintro e V2 ⟨rfl, hV⟩
          dsimp only
          have hq := hq.below hV
          have hr := hr.below hV
          have hs := hs.below hV
          have hb := belowTo hb hV
          have hsm := hs.room
          clear hV
          go_wp2_with (first | (refine wpList_store_R rfl _ _ (by rfl) (by rfl) k _ Y (by rfl) (by rfl) hsm ?_; intro w9 hput))
          go_roundw
          case rel =>
            exact ⟨r, Y, j / 2, g, by rw [HH.out], by omega, HG.out, HE2.out, hput.room hq (by omega), hput.far hr (by omega), hput.has hsm, hput.below hb (by omega)⟩
          case measure => simp [intOf]; omega
end Go.Proofs.Ytalalbhhlbeghaa
