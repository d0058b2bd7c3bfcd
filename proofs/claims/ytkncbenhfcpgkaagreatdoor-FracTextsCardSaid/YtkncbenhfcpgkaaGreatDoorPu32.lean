/- Several texts in one: OpenFrac. -/
import Derived.Test.YtkncbenhfcpgkaaGreatDoorPu21
import Derived.Test.YtkncbenhfcpgkaaGreatDoorPu01
import Derived.Test.YtkncbenhfcpgkaaGreatDoorPu22
import Derived.ChangeSame
set_option maxRecDepth 100000
set_option maxHeartbeats 8000000
/- An api.Frac that came in, opened. -/
namespace Go.Proofs.YtkncbenhfcpgkaaGreatDoor
open Go.ChangeShapes Go.WideShapes Go.ChangeAt Go.RowKit Go.Joins

theorem cells_frac : Tryz.prog.cellsOf 56 = 4 := by kernel_rfl
theorem cells_bool1 : Tryz.prog.cellsOf 4 = 1 := by kernel_rfl
theorem cells_limbs1 : Tryz.prog.cellsOf 22 = 1 := by kernel_rfl
theorem open_int_cells {H : Type} {enc : TypeId × Value → H} {w : World} {held : Bool} {m : Nat} {v0 v1 : Value} {y : DataW H × List MemPlace}
    (h : DataW.trod enc Tryz.prog w 0 (fun _ => true) held m 24 [v0, v1] = some y) :
    ∃ (neg : Bool) (A : Option Addr) (c : Nat) (xs : List Nat), [v0, v1] = [.bool neg, .slice A xs.length c] ∧ Raw w A c xs ∧ ((DataW.weights Tryz.prog 24 y.1).all (· ≤ reachBytes) = true → xs.length ≤ 1152921504606846975) := by
  obtain ⟨y0, y1, n, rfl, -, h0, h1⟩ := trod_struct2 Tryz.underlying24 h
  simp only [cells_bool1, cells_limbs1, List.drop_zero, List.drop_succ_cons, List.take_succ_cons, List.take_zero] at h0 h1
  obtain ⟨neg, e0, rfl⟩ := DataW.trod_bool Tryz.underlying4 h0
  simp at e0
  subst e0
  rcases open_ints Tryz.underlying22 Tryz.underlying70 cells_limb h1 with ⟨e1, rfl⟩ | ⟨a, len, cap, zs, e1, -, hl, hm, hz, rfl, hc, hw⟩
  · simp at e1
    subst e1
    exact ⟨neg, none, 0, [], rfl, ⟨by intro x hx; simp at hx, by simp, by omega, Reads.none_⟩, fun _ => by simp⟩
  · simp at e1
    subst e1
    simp at hz
    have hb : ∀ i (hi : i < zs.length), 0 ≤ zs[i] ∧ zs[i] ≤ 4294967295 := fun i hi => bounds_u32 (hw _ (List.getElem_mem hi))
    have hlen : ((zs.take len).map Int.toNat).length = len := by simp; omega
    refine ⟨neg, some a, cap, (zs.take len).map Int.toNat, by rw [hlen], ⟨?_, by rw [hlen]; exact hl, by unfold maxLen at hm; omega, ?_⟩, ?_⟩
    · intro x hx
      simp only [List.mem_map] at hx
      obtain ⟨z, hz', rfl⟩ := hx
      obtain ⟨i, hi, rfl⟩ := List.mem_iff_getElem.1 (List.mem_of_mem_take hz')
      have := hb i hi
      omega
    · refine ⟨by rw [cellsU_length, Nat.mul_one], fun h0 => ⟨a, rfl, ?_, fun j u hu => ?_⟩⟩
      · rw [hlen] at h0
        have := lt_of_cell (hc 0 (by omega))
        rwa [block_of_add] at this
      · have hj : j < ((zs.take len).map Int.toNat).length := by
          have := (List.getElem?_eq_some_iff.1 hu).1
          rwa [cellsU_length] at this
        rw [cellsU_get hj] at hu
        rw [hlen] at hj
        have hj2 : j < zs.length := by omega
        have hbj := hb j hj2
        rw [← hu, hc j hj2]
        simp [hj2]
        omega
    · intro hs
      rw [hlen]
      simp only [DataW.weights, Tryz.underlying24, DataW.weightsEach, Tryz.underlying22, List.all_append, List.all_cons, Bool.and_eq_true, bytes_limb, lits, List.length_map, List.length_take, List.length_drop, reachBytes, List.map_cons, List.map_nil] at hs
      have h4 := of_decide_eq_true hs.2.1.1
      omega
theorem open_frac {H : Type} {enc : TypeId × Value → H} {w : World} {held : Bool} {v : Value} {d : DataW H} {p : List MemPlace}
    (hv : Value.okWide Tryz.prog w .any 0 56 v) (h : DataW.Trod enc Tryz.prog w 0 (fun _ => true) held 56 v d p) :
    ∃ (n1 n2 : Bool) (A B : Option Addr) (c e : Nat) (xs ys : List Nat), v = .agg #[.bool n1, .slice A xs.length c, .bool n2, .slice B ys.length e] ∧ Raw w A c xs ∧ Raw w B e ys ∧ ((DataW.weights Tryz.prog 56 d).all (· ≤ reachBytes) = true → xs.length ≤ 1152921504606846975 ∧ ys.length ≤ 1152921504606846975) := by
  obtain ⟨cs, rfl, hsz⟩ := okWide_struct Tryz.underlying56 hv
  rw [cells_frac] at hsz
  obtain ⟨cs⟩ := cs
  match cs, hsz with
  | [c0, c1, c2, c3], _ =>
    obtain ⟨fuel, hf⟩ := h
    obtain ⟨y0, y1, n, hx, -, h0, h1⟩ := trod_struct2 Tryz.underlying56 hf
    simp only [Value.cells, cells_api, List.drop_zero, List.drop_succ_cons, List.take_succ_cons, List.take_zero] at h0 h1
    simp only [Prod.mk.injEq] at hx
    obtain ⟨rfl, -⟩ := hx
    obtain ⟨n1, A, c, xs, e1, r1, b1⟩ := open_int_cells h0
    obtain ⟨n2, B, e, ys, e2, r2, b2⟩ := open_int_cells h1
    simp only [List.cons.injEq, and_true] at e1 e2
    obtain ⟨rfl, rfl⟩ := e1
    obtain ⟨rfl, rfl⟩ := e2
    refine ⟨n1, n2, A, B, c, e, xs, ys, rfl, r1, r2, fun hs => ?_⟩
    simp only [DataW.weights, Tryz.underlying56, DataW.weightsEach, List.map_cons, List.map_nil, List.all_append, Bool.and_eq_true] at hs
    exact ⟨b1 hs.1, b2 hs.2.1⟩
end Go.Proofs.YtkncbenhfcpgkaaGreatDoor
