/- Several texts in one: Answerq1, BitsLzq2, OpenIntq1, RootExq1. -/
import Derived.Test.YtkncbenhfcpgkaaGreatDoorPu08
import Derived.Test.YtkncbenhfcpgkaaGreatDoorPuHd
import Derived.Test.YtkncbenhfcpgkaaGreatDoorPu34
import Derived.Test.YtkncbenhfcpgkaaGreatDoorPu39
import Derived.Test.YtkncbenhfcpgkaaGreatDoorPu07
import Derived.Test.YtkncbenhfcpgkaaGreatDoorPu05
import Derived.Test.YtkncbenhfcpgkaaGreatDoorPu04
import Derived.Test.YtkncbenhfcpgkaaGreatDoorPu01
import Derived.Test.YtkncbenhfcpgkaaGreatDoorPu03
import Derived.Test.YtkncbenhfcpgkaaGreatDoorPu33
import Derived.Test.YtkncbenhfcpgkaaGreatDoorPu02
import Derived.Test.YtkncbenhfcpgkaaGreatDoorPu06
import Derived.Test.YtkncbenhfcpgkaaGreatDoorPu19
import Derived.Test.YtkncbenhfcpgkaaGreatDoorPu36
import Derived.Test.YtkncbenhfcpgkaaGreatDoorPu16
import Derived.Test.YtkncbenhfcpgkaaGreatDoorPu13
import Derived.Test.YtkncbenhfcpgkaaGreatDoorPu12
import Derived.Test.YtkncbenhfcpgkaaGreatDoorPu21
import Derived.ChangeSlices
import Derived.ChangeArms
import Derived.SizedLaws
import Derived.Lib.SmallJoins
import Derived.Test.YtkncbenhfcpgkaaGreatDoorPu38
import Derived.Test.YtkncbenhfcpgkaaGreatDoorPu37
import Derived.Test.YtkncbenhfcpgkaaGreatDoorPu18
import Derived.Test.YtkncbenhfcpgkaaGreatDoorPu20
import Derived.Test.YtkncbenhfcpgkaaGreatDoorPu15
import Derived.Test.YtkncbenhfcpgkaaGreatDoorPu14
import Derived.Test.YtkncbenhfcpgkaaGreatDoorPu11
import Derived.Test.YtkncbenhfcpgkaaGreatDoorPu17
import Derived.Test.YtkncbenhfcpgkaaGreatDoorPu35
import Derived.Test.YtkncbenhfcpgkaaGreatDoorPu09
set_option maxRecDepth 100000
set_option maxHeartbeats 8000000
/- told, Add, Sub, Mul of package whole and of the references. (Written by wip/exact/gentold.py.) -/
namespace Go.Proofs.YtkncbenhfcpgkaaGreatDoor
open Go.RowKit

theorem toldV_fits {z : Int} (h : (natL z.natAbs).length ≤ 2048) : toldV z = z := by unfold toldV; rw [if_pos h]
theorem toldE_fits {z : Int} (h : (natL z.natAbs).length ≤ 2048) : toldE z = 0 := by unfold toldE; rw [if_pos h]
theorem toldV_long {z : Int} (h : 2048 < (natL z.natAbs).length) : toldV z = 0 := by unfold toldV; rw [if_neg (by omega)]
theorem toldE_long {z : Int} (h : 2048 < (natL z.natAbs).length) : toldE z = 4 := by unfold toldE; rw [if_neg (by omega)]
theorem ref_told_fits (b : Bool) (A : Option Addr) (n c : Nat) (hn : n ≤ 9223372036854775807) (hf : n ≤ 2048) (w : World) :
    Calls Tryz.prog 37 #[.agg #[.bool b, .slice A n c]] w fun e w' => e = .returned (.tuple #[.agg #[.bool b, .slice A n c], .int .i64 0]) ∧ Below w.heap.size w w' := by
  have pr := Pair.new (w.alloc (.cells #[.bool b, .slice A n c] 24)) 24 (.bool false) (.slice none 0 0)
  have px := (Pair.new w 24 (.bool b) (.slice A n c)).alloc (.cells #[.bool false, .slice none 0 0] 24)
  have b0 := ((Below.refl w.heap.size w).alloc (Nat.le_refl _) (.cells #[.bool b, .slice A n c] 24)).alloc (by simp) (.cells #[.bool false, .slice none 0 0] 24)
  simp only [World.size_alloc] at pr
  have C1 := fun (V : World) => ref_Long b A n c hn V
  rw [decide_eq_false (show ¬ 2048 < n from by omega)] at C1
  have C := Hd C1
  clear C1
  have PX := Hd px
  have PR := Hd pr
  have B0 := Hd b0
  clear px pr b0
  go_enter Tryz.func37, Tryz.ntmps37
  go_wp2_with (go_at_call 125; with_reducible refine (C.out _).mono ?_; rintro e w' ⟨rfl, hb⟩; have px := PX.out.below hb; have pr := PR.out.below hb; have B1 := belowTo B0.out hb; have hl0 := B0.out.size; obtain ⟨l1, x0, x1, f0, f1⟩ := px.facts; obtain ⟨l2, y0, y1, g0, g1⟩ := pr.facts)
  have hq := pr.store (.bool b) (.slice A n c)
  obtain ⟨_, k0, k1, _, _⟩ := hq.facts
  exact bodyPost_ret (by simp [results, Tryz.results37, go_sem, k0, k1]) rfl ⟨rfl, below2 B1 (by omega) _ _⟩

theorem ref_told_long (b : Bool) (A : Option Addr) (n c : Nat) (hn : n ≤ 9223372036854775807) (hf : 2048 < n) (w : World) :
    Calls Tryz.prog 37 #[.agg #[.bool b, .slice A n c]] w fun e w' => e = .returned (.tuple #[.agg #[.bool false, .slice none 0 0], .int .i64 4]) ∧ Below w.heap.size w w' := by
  have pr := Pair.new (w.alloc (.cells #[.bool b, .slice A n c] 24)) 24 (.bool false) (.slice none 0 0)
  have px := (Pair.new w 24 (.bool b) (.slice A n c)).alloc (.cells #[.bool false, .slice none 0 0] 24)
  have b0 := ((Below.refl w.heap.size w).alloc (Nat.le_refl _) (.cells #[.bool b, .slice A n c] 24)).alloc (by simp) (.cells #[.bool false, .slice none 0 0] 24)
  simp only [World.size_alloc] at pr
  have C1 := fun (V : World) => ref_Long b A n c hn V
  rw [decide_eq_true (show 2048 < n from hf)] at C1
  have C := Hd C1
  clear C1
  have PX := Hd px
  have PR := Hd pr
  have B0 := Hd b0
  clear px pr b0
  go_enter Tryz.func37, Tryz.ntmps37
  go_wp2_with (go_at_call 125; with_reducible refine (C.out _).mono ?_; rintro e w' ⟨rfl, hb⟩; have px := PX.out.below hb; have pr := PR.out.below hb; have B1 := belowTo B0.out hb; have hl0 := B0.out.size; obtain ⟨l1, x0, x1, f0, f1⟩ := px.facts; obtain ⟨l2, y0, y1, g0, g1⟩ := pr.facts)
  have hq := pr.store (.bool false) (.slice none 0 0)
  obtain ⟨_, k0, k1, _, _⟩ := hq.facts
  exact bodyPost_ret (by simp [results, Tryz.results37, go_sem, k0, k1]) rfl ⟨rfl, below2 B1 (by omega) _ _⟩

theorem ref_told (base : Nat) (v : Value) (z : Int) (w : World) (h : IntOwn w base v z) :
    Calls Tryz.prog 37 #[v] w (RetInt2 base w (toldV z) (toldE z)) := by
  obtain ⟨A, c, rfl, hn⟩ := h.value
  by_cases hf : (natL z.natAbs).length ≤ 2048
  · rw [toldV_fits hf, toldE_fits hf]
    refine (ref_told_fits _ A _ c hn hf w).mono ?_
    rintro e w' ⟨rfl, hb⟩
    exact ⟨_, rfl, h.below hb, hb⟩
  · rw [toldV_long (by omega), toldE_long (by omega)]
    refine (ref_told_long _ A _ c hn (by omega) w).mono ?_
    rintro e w' ⟨rfl, hb⟩
    exact ⟨_, rfl, IntOwn.nought _ _, hb⟩

/- How many bits, how many limbs. -/

theorem bz_pos {x : Int} (hx : x ≠ 0) : 1 ≤ bz x := (bits_val (show 0 < x.natAbs by omega)).1
theorem lz_double {x : Int} (hx : x ≠ 0) (n L : Nat) : lz (x * ((2 ^ n : Nat) : Int)) ≤ L ↔ bz x + n ≤ 32 * L := by
  have hp : 0 < x.natAbs := by omega
  obtain ⟨h1, h2, h3⟩ := bits_val hp
  have h4 : lz (x * ((2 ^ n : Nat) : Int)) ≤ L ↔ x.natAbs * 2 ^ n < 2 ^ (32 * L) := by
    rw [lz_le, Int.natAbs_mul, Int.natAbs_natCast, show (4294967296 : Nat) = 2 ^ 32 by decide, ← Nat.pow_mul]
  have hb : bz x = bitsI (natL x.natAbs) := rfl
  rw [h4, hb]
  generalize bitsI (natL x.natAbs) = b at *
  generalize 32 * L = m
  constructor
  · intro h
    have h5 : 2 ^ (b - 1) * 2 ^ n < 2 ^ m := Nat.lt_of_le_of_lt (Nat.mul_le_mul_right _ h2) h
    rw [← Nat.pow_add] at h5
    have := (Nat.pow_lt_pow_iff_right (by omega)).1 h5
    omega
  · intro h
    have h5 : x.natAbs * 2 ^ n < 2 ^ b * 2 ^ n := Nat.mul_lt_mul_of_pos_right h3 (Nat.two_pow_pos n)
    rw [← Nat.pow_add] at h5
    exact Nat.lt_of_lt_of_le h5 (Nat.pow_le_pow_right (by omega) h)
/- An api.Int that came in, opened. -/
open Go.ChangeShapes Go.WideShapes Go.ChangeAt Go.RowKit Go.Joins

theorem open_api {H : Type} {enc : TypeId × Value → H} {w : World} {held : Bool} {v : Value} {d : DataW H} {p : List MemPlace}
    (hv : Value.okWide Tryz.prog w .any 0 24 v) (h : DataW.Trod enc Tryz.prog w 0 (fun _ => true) held 24 v d p) :
    ∃ (neg : Bool) (A : Option Addr) (c : Nat) (xs : List Nat), v = .agg #[.bool neg, .slice A xs.length c] ∧ Raw w A c xs ∧ ((DataW.weights Tryz.prog 24 d).all (· ≤ reachBytes) = true → xs.length ≤ 1152921504606846975) := by
  obtain ⟨v0, v1, y0, y1, n, rfl, rfl, rfl, h0, h1⟩ := open_agg2 Tryz.underlying24 (by kernel_rfl) cells_api hv h
  obtain ⟨neg, e0, rfl⟩ := DataW.trod_bool Tryz.underlying4 h0
  simp at e0
  subst e0
  rcases open_ints Tryz.underlying22 Tryz.underlying70 cells_limb h1 with ⟨e1, rfl⟩ | ⟨a, len, cap, zs, e1, -, hl, hm, hz, rfl, hc, hw⟩
  · simp at e1
    subst e1
    exact ⟨neg, none, 0, [], rfl, ⟨by intro x hx; simp at hx, by simp, by omega, Reads.none_⟩, fun _ => by simp⟩
  · simp at e1
    subst e1
    simp at hz
    have hb : ∀ i (hi : i < zs.length), 0 ≤ zs[i] ∧ zs[i] ≤ 4294967295 := fun i hi => bounds_u32 (hw _ (List.getElem_mem hi))
    have hlen : ((zs.take len).map Int.toNat).length = len := by simp; omega
    refine ⟨neg, some a, cap, (zs.take len).map Int.toNat, by rw [hlen], ⟨?_, by rw [hlen]; exact hl, by unfold maxLen at hm; omega, ?_⟩, ?_⟩
    · intro x hx
      simp only [List.mem_map] at hx
      obtain ⟨z, hz', rfl⟩ := hx
      obtain ⟨i, hi, rfl⟩ := List.mem_iff_getElem.1 (List.mem_of_mem_take hz')
      have := hb i hi
      omega
    · refine ⟨by rw [cellsU_length, Nat.mul_one], fun h0 => ⟨a, rfl, ?_, fun j u hu => ?_⟩⟩
      · rw [hlen] at h0
        have := lt_of_cell (hc 0 (by omega))
        rwa [block_of_add] at this
      · have hj : j < ((zs.take len).map Int.toNat).length := by
          have := (List.getElem?_eq_some_iff.1 hu).1
          rwa [cellsU_length] at this
        rw [cellsU_get hj] at hu
        rw [hlen] at hj
        have hj2 : j < zs.length := by omega
        have hbj := hb j hj2
        rw [← hu, hc j hj2]
        simp [hj2]
        omega
    · intro hs
      rw [hlen]
      simp only [DataW.weights, Tryz.underlying24, DataW.weightsEach, Tryz.underlying22, List.all_append, List.all_cons, Bool.and_eq_true, bytes_limb, lits, List.length_map, List.length_take, List.length_drop, reachBytes, List.map_cons, List.map_nil] at hs
      have h4 := of_decide_eq_true hs.2.1.1
      omega
/- There is a root. Plain. -/

theorem rootZ_le {x r : Int} (h : IsRootZ x r) : r ≤ x := by
  obtain ⟨h0, h1, -⟩ := h
  rcases (by omega : r = 0 ∨ 1 ≤ r) with h2 | h2
  · subst h2; simpa using h1
  · have := Int.mul_le_mul_of_nonneg_left h2 h0
    omega
theorem ediv_abs (a : Int) (b : Nat) : (a / (b : Int)).natAbs ≤ a.natAbs := by
  rcases Nat.eq_zero_or_pos b with h0 | h0
  · subst h0; simp
  · rcases (by omega : 0 ≤ a ∨ a < 0) with h | h
    · obtain ⟨n, rfl⟩ := Int.eq_ofNat_of_zero_le h
      rw [← Int.natCast_ediv, Int.natAbs_natCast, Int.natAbs_natCast]
      exact Nat.div_le_self _ _
    · have h1 : a ≤ a / (b : Int) := by
        have h2 : (1 : Int) ≤ b := by omega
        have h3 := (Int.le_ediv_iff_mul_le (a := a) (b := a) (c := (b : Int)) (by omega)).2 (by
          obtain ⟨m, hm⟩ : ∃ m : Nat, a = -(m : Int) := ⟨a.natAbs, by omega⟩
          have h4 : m * 1 ≤ m * b := Nat.mul_le_mul_left m (by omega)
          rw [hm, Int.neg_mul]
          have h5 : ((m * b : Nat) : Int) = (m : Int) * (b : Int) := by simp
          omega)
        exact h3
      have h4 : a / (b : Int) < 0 := Int.ediv_neg_of_neg_of_pos h (by omega)
      omega
end Go.Proofs.YtkncbenhfcpgkaaGreatDoor
