/- Contracts of the document's matrices: Chain, over any ring of things. -/
import Derived.Test.YtalalbhhlbeghaaRef08e
namespace Go.Proofs.Ytalalbhhlbeghaa
open Go.RowKit
attribute [local go_sem] run_store_complex

theorem flatMap_get {α β : Type} {f : α → List β} {n : Nat} (hf : ∀ x, (f x).length = n) : ∀ (l : List α) (i j : Nat) (h : i < l.length), j < n → (l.flatMap f)[i * n + j]? = (f l[i])[j]?
  | [], i, _, h, _ => by simp at h
  | x :: l, 0, j, _, hj => by
    rw [List.flatMap_cons, Nat.zero_mul, Nat.zero_add, List.getElem?_append_left (by rw [hf]; exact hj)]; rfl
  | x :: l, i + 1, j, h, hj => by
    rw [List.flatMap_cons, Nat.succ_mul, List.getElem?_append_right (by rw [hf]; omega), hf, show i * n + n + j - n = i * n + j by omega]
    exact flatMap_get hf l i j (by simpa using h) hj
theorem flatMap_len {α β : Type} {f : α → List β} {n : Nat} (hf : ∀ x, (f x).length = n) (l : List α) : (l.flatMap f).length = l.length * n := by
  induction l with
  | nil => simp
  | cons x l ih => rw [List.flatMap_cons, List.length_append, ih, hf, List.length_cons, Nat.succ_mul]; omega
def rCells (k : Int) (l : List M4) : List Value := l.flatMap fun m => (matC k m).toList
theorem rCells_len (k : Int) (l : List M4) : (rCells k l).length = l.length * 12 := flatMap_len (f := fun m : M4 => (matC k m).toList) (n := 12) (fun _ => rfl) l
/-- The cells of the i-th of a list of matrices, in the walk's own spelling. -/
theorem Reads.rowR {w : World} {B : Nat} {A : Option Addr} {k : Int} {l : List M4} (h : Reads w B 12 A l.length (rCells k l)) {i : Nat} (hi : i < l.length) :
    ∃ ad : Addr, A = some ad ∧ ad.block < B ∧ w.cell? (ad.add (i * 12)) = (matC k l[i])[0]? ∧ ∀ j, j + 1 < 12 → w.cell? ⟨(ad.add (i * 12)).block, (ad.add (i * 12)).off + (j + 1), none⟩ = (matC k l[i])[j + 1]? := by
  obtain ⟨ad, e, hb, hc⟩ := h.2 (by omega)
  have key : ∀ j, j < 12 → w.cell? (ad.add (i * 12 + j)) = (matC k l[i])[j]? := fun j hj => by
    have h1 := flatMap_get (f := fun m : M4 => (matC k m).toList) (n := 12) (fun _ => rfl) l i j hi hj
    have hlt : j < (matC k l[i]).size := hj
    have h2 : (matC k l[i]).toList[j]? = some (matC k l[i])[j] := by rw [Array.getElem?_toList]; exact Array.getElem?_eq_getElem hlt
    rw [Array.getElem?_eq_getElem hlt]
    exact hc _ _ (h1.trans h2)
  refine ⟨ad, e, hb, key 0 (by omega), fun j hj => ?_⟩
  rw [← add_more _ _ (j + 1) (by omega)]
  exact key (j + 1) hj

set_option maxRecDepth 100000 in
set_option maxHeartbeats 1000000 in
theorem r_Chain {k : Int} {R : Rng} (H : RefRing k R) (one : M4) (A : Option Addr) (c : Nat) (l : List M4) (hl : l.length ≤ 9223372036854775807) (w : World) (hr : Reads w w.heap.size 12 A l.length (rCells k l)) :
    Calls Try.prog 35 #[matR k one, .slice A l.length c] w fun e w' => e = .returned (matR k (M4.gchain R one l)) ∧ Below w.heap.size w w' := by
  have HR := Lib.hid H
  have HL := Lib.hid hr
  clear H hr
  go_enter Try.func35, Try.ntmps35
  go_wp2_with fail
  go_loopw [6] (fun v wr => ∃ i : Nat, v = .int .i64 i ∧ i ≤ l.length ∧ Below w.heap.size w wr ∧ RoomR wr (w.heap.size + 1) ∧ HasR k wr (w.heap.size + 1 + 1) (M4.gchain R one (l.take i))) (fun v _ => l.length - (intOf v).toNat)
  case atStart =>
    refine ⟨0, rfl, Nat.zero_le _, ?_, ?_, ?_⟩
    · repeat (first | exact Below.refl _ _ | refine Below.alloc ?_ (by simp; try omega) _)
    · have h := (Blk.new (w.alloc (.cells (matC k one) 60)) 60 (matC 0 ⟨0, 0, 0, 0⟩)).alloc (.cells (matC k one) 60)
      simp only [World.size_alloc] at h
      exact ⟨_, h, rfl⟩
    · have h := Blk.new ((w.alloc (.cells (matC k one) 60)).alloc (.cells (matC 0 ⟨0, 0, 0, 0⟩) 60)) 60 (matC k one)
      simp only [World.size_alloc] at h
      exact ⟨h⟩
  case round =>
    obtain ⟨i, rfl, hi, hb, hq, hr⟩ := hrel
    by_cases hlt : i < l.length
    · obtain ⟨ad, rfl, had, -⟩ := HL.out.rowR hlt
      have hs : ∀ V, Below (w.heap.size + 1 + 1) _ V → Reads V w.heap.size 12 (some ad) l.length (rCells k l) := fun V hV => (HL.out.below hb).below (hV.mono (by omega))
      have HS := Lib.hid hs
      have hsn := M4.gchain_snoc R one l i hlt
      have HN := Lib.hid hsn
      have hsize : w.heap.size + 1 + 1 ≤ _ := Nat.le_of_lt hr.room.lt
      have HZ := Lib.hid hsize
      have HB := Lib.hid hb
      have HQ := Lib.hid hq
      have HRR := Lib.hid hr
      have i0 : (0 : Int) ≤ (i : Int) := by omega
      have i1 : (i : Int) < (l.length : Int) := by omega
      clear hs hsn hsize hb hq hr hi
      generalize hG : M4.gchain R one (l.take i) = r at HRR HN
      clear hG
      go_wp2_with fail
      refine wp_region_list [.val (.slice (some ad) l.length c), .val (.int .i64 i), .val (.pointer (some (ad.add (i * 12)))), .val (matR k l[i]), .val (matR k r), .val (matR k (M4.gmul R l[i] r)), .old 5 (w.heap.size + 1 + 1) 60 5 (matC k (M4.gmul R l[i] r))]
        (w.heap.size + 1 + 1) _ (matC k r) _ mixedOrders HZ.out (Below.refl _ _) rfl (by kernel_rfl) (by kernel_rfl) (by kernel_rfl) (by kernel_rfl) (by kernel_rfl) rfl (by kernel_rfl) (by kernel_rfl) (by kernel_rfl) ?_ ?_ ?_ ?_ ?_
      · simp [ValOk, fill, pairs, isVal, clsOf]
        repeat' apply And.intro
        all_goals
          intro V hV hS
          obtain ⟨ad', e, -, c0, cj⟩ := (HS.out V hV).rowR hlt
          injection e with e
          subst e
          have c1 := cj 0 (by omega)
          have c2 := cj 1 (by omega)
          have c3 := cj 2 (by omega)
          have c4 := cj 3 (by omega)
          have c5 := cj 4 (by omega)
          have c6 := cj 5 (by omega)
          have c7 := cj 6 (by omega)
          have c8 := cj 7 (by omega)
          have c9 := cj 8 (by omega)
          have c10 := cj 9 (by omega)
          have c11 := cj 10 (by omega)
          simp at c0 c1 c2 c3 c4 c5 c6 c7 c8 c9 c10 c11
          have hS2 := hS 6 _ _ _ _ _ rfl
          have d0 := hS2.cell 0
          have d1 := hS2.cell 1
          have d2 := hS2.cell 2
          have d3 := hS2.cell 3
          have d4 := hS2.cell 4
          have d5 := hS2.cell 5
          have d6 := hS2.cell 6
          have d7 := hS2.cell 7
          have d8 := hS2.cell 8
          have d9 := hS2.cell 9
          have d10 := hS2.cell 10
          have d11 := hS2.cell 11
          simp at d0 d1 d2 d3 d4 d5 d6 d7 d8 d9 d10 d11
          clear cj hS2 hS hV
          go_simp
          first | exact Below.refl _ _ | ((with_reducible refine (r_Mul HR.out _ _ _).mono ?_); rintro e w' ⟨rfl, hb⟩; exact ⟨rfl, hb⟩)
      · simp only [NewOk]
      · simp only [PutOk]
      · refine And.intro (b := True) ?_ trivial
        exact ⟨Nat.le_refl _, HRR.out.room.lt, HRR.out.blk, rfl, _, rfl, rfl, rfl, rfl, by kernel_rfl, rfl, by kernel_rfl, matInfoR, by kernel_rfl⟩
      · intro bs V hV _ _ _ ho
        have hb := ho 6 _ _ _ _ _ rfl
        clear ho
        simp [fill, pairs, clsOf, Cls.of]
        rw [← HN.out] at hb
        go_wp2
        go_roundw
        case rel =>
          refine ⟨i + 1, by go_num, hlt, HB.out.trans (hV.mono (by omega)), ?_, ⟨hb⟩⟩
          obtain ⟨z, z1, z2⟩ := HQ.out.blk
          exact ⟨z, z1.below hV (by omega), z2⟩
        case measure => simp [intOf]; omega
    · obtain rfl : i = l.length := by omega
      rw [List.take_length] at hr
      go_wp2_with (first | (refine wpList_load_R rfl _ (by rfl) k _ _ (by rfl) hr ?_) | (refine wpList_store_R rfl _ _ (by rfl) (by rfl) k _ (M4.gchain R one l) (by rfl) (by rfl) hq ?_; intro w9 hput))
      have hres := (hput.has hq).blk
      exact bodyPost_ret (results_cell_row Try.results35 _ _ _ _ _ _ _ rfl hres Try.underlying60 rfl matInfoR) rfl ⟨rfl, hput.below hb (by omega)⟩
end Go.Proofs.Ytalalbhhlbeghaa
