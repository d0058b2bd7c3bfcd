/- Several texts in one: RootEx, Tups, OpenInt. -/
import Derived.Test.YtkncbenhfcpgkaaDoorBu26
import Derived.Test.YtkncbenhfcpgkaaDoorBu25
import Derived.Test.YtkncbenhfcpgkaaDoorBu19
import Derived.Test.YtkncbenhfcpgkaaDoorBu21
import Derived.Test.YtkncbenhfcpgkaaDoorBu22
import Derived.Test.YtkncbenhfcpgkaaDoorBu17
import Derived.Test.YtkncbenhfcpgkaaDoorBu18
import Derived.Test.YtkncbenhfcpgkaaDoorBu09
import Derived.Test.YtkncbenhfcpgkaaDoorBu13
import Derived.Test.YtkncbenhfcpgkaaDoorBu04
import Derived.Test.YtkncbenhfcpgkaaDoorBu03
import Derived.Test.YtkncbenhfcpgkaaDoorBu02
import Derived.Test.YtkncbenhfcpgkaaDoorBu01
import Derived.Test.YtkncbenhfcpgkaaDoorBu11
import Derived.Test.YtkncbenhfcpgkaaDoorBu12
import Derived.Test.YtkncbenhfcpgkaaDoorBu06
import Derived.Test.YtkncbenhfcpgkaaDoorBu05
import Derived.Test.YtkncbenhfcpgkaaDoorBu10
import Derived.Test.YtkncbenhfcpgkaaDoorBu08
import Derived.Test.YtkncbenhfcpgkaaDoorBu16
import Derived.Test.YtkncbenhfcpgkaaDoorBu14
import Derived.Test.YtkncbenhfcpgkaaDoorBu15
import Derived.Test.YtkncbenhfcpgkaaDoorBu07
import Derived.Test.YtkncbenhfcpgkaaDoorBu23
import Derived.Test.YtkncbenhfcpgkaaDoorBu24
import Derived.Test.YtkncbenhfcpgkaaDoorBu20
import Derived.ChangeSlices
import Derived.ChangeArms
import Derived.SizedLaws
import Derived.Lib.SmallJoins
set_option maxRecDepth 100000
set_option maxHeartbeats 8000000
/- There is a root. Plain. -/
namespace Go.Proofs.YtkncbenhfcpgkaaDoor

/- Numbers handed back with an error, in regions that draw their order; refusals told by a number's letter. -/
open Go.RowKit

structure IntE (w : World) (base : Nat) (u : Value) (z k : Int) : Prop where
  ex : ∃ v, u = .tuple #[v, .int .i64 k] ∧ IntOwn w base v z
theorem IntE.kept {B : Nat} {Ts : List TypeId} {w w' : World} {base : Nat} {u : Value} {z m : Int} (h : IntE w base u z m) (k : KeptV B Ts w w') (hT : 45 ∉ Ts) : IntE w' base u z m := by
  obtain ⟨v, h1, h2⟩ := h.ex
  exact ⟨v, h1, h2.kept k hT⟩
structure IntsE (w : World) (base : Nat) (u : Value) (y z k : Int) : Prop where
  ex : ∃ v v', u = .tuple #[v, v', .int .i64 k] ∧ IntOwn w base v y ∧ IntOwn w base v' z
theorem IntsE.kept {B : Nat} {Ts : List TypeId} {w w' : World} {base : Nat} {u : Value} {y z m : Int} (h : IntsE w base u y z m) (k : KeptV B Ts w w') (hT : 45 ∉ Ts) : IntsE w' base u y z m := by
  obtain ⟨v, v', h1, h2, h3⟩ := h.ex
  exact ⟨v, v', h1, h2.kept k hT, h3.kept k hT⟩
theorem of_o (n z : Int) (h : z = n) (h1 : -9223372036854775808 ≤ n) (h2 : n ≤ 9223372036854775807) (w : World) : Calls Tryd.prog 10 #[.int .i64 n] w (RetInt w.heap.size w z) := by
  rw [h]; exact whole_Of n h1 h2 w
/- An api.Int that came in, opened. -/
open Go.ChangeShapes Go.WideShapes Go.ChangeAt Go.RowKit Go.Joins

theorem cells_api : Tryd.prog.cellsOf 24 = 2 := by kernel_rfl
theorem cells_limb : Tryd.prog.cellsOf 45 = 1 := by kernel_rfl
theorem bytes_limb : Tryd.prog.bytesOf 45 = 4 := by kernel_rfl

theorem lt_of_cell {w : World} {a : Addr} {v : Value} (h : w.cell? a = some v) : a.block < w.heap.size := by
  rcases Nat.lt_or_ge a.block w.heap.size with h' | h'
  · exact h'
  · unfold World.cell? at h; rw [Array.getElem?_eq_none h'] at h; simp at h

theorem open_api {H : Type} {enc : TypeId × Value → H} {w : World} {held : Bool} {v : Value} {d : DataW H} {p : List MemPlace}
    (hv : Value.okWide Tryd.prog w .any 0 24 v) (h : DataW.Trod enc Tryd.prog w 0 (fun _ => true) held 24 v d p) :
    ∃ (neg : Bool) (A : Option Addr) (c : Nat) (xs : List Nat), v = .agg #[.bool neg, .slice A xs.length c] ∧ Raw w A c xs ∧ ((DataW.weights Tryd.prog 24 d).all (· ≤ reachBytes) = true → xs.length ≤ 1152921504606846975) := by
  obtain ⟨v0, v1, y0, y1, n, rfl, rfl, rfl, h0, h1⟩ := open_agg2 Tryd.underlying24 (by kernel_rfl) cells_api hv h
  obtain ⟨neg, e0, rfl⟩ := DataW.trod_bool Tryd.underlying4 h0
  simp at e0
  subst e0
  rcases open_ints Tryd.underlying22 Tryd.underlying45 cells_limb h1 with ⟨e1, rfl⟩ | ⟨a, len, cap, zs, e1, -, hl, hm, hz, rfl, hc, hw⟩
  · simp at e1
    subst e1
    exact ⟨neg, none, 0, [], rfl, ⟨by intro x hx; simp at hx, by simp, by omega, Reads.none_⟩, fun _ => by simp⟩
  · simp at e1
    subst e1
    simp at hz
    have hb : ∀ i (hi : i < zs.length), 0 ≤ zs[i] ∧ zs[i] ≤ 4294967295 := fun i hi => bounds_u32 (hw _ (List.getElem_mem hi))
    have hlen : ((zs.take len).map Int.toNat).length = len := by simp; omega
    refine ⟨neg, some a, cap, (zs.take len).map Int.toNat, by rw [hlen], ⟨?_, by rw [hlen]; exact hl, by unfold maxLen at hm; omega, ?_⟩, ?_⟩
    · intro x hx
      simp only [List.mem_map] at hx
      obtain ⟨z, hz', rfl⟩ := hx
      obtain ⟨i, hi, rfl⟩ := List.mem_iff_getElem.1 (List.mem_of_mem_take hz')
      have := hb i hi
      omega
    · refine ⟨by rw [cellsU_length, Nat.mul_one], fun h0 => ⟨a, rfl, ?_, fun j u hu => ?_⟩⟩
      · rw [hlen] at h0
        have := lt_of_cell (hc 0 (by omega))
        rwa [block_of_add] at this
      · have hj : j < ((zs.take len).map Int.toNat).length := by
          have := (List.getElem?_eq_some_iff.1 hu).1
          rwa [cellsU_length] at this
        rw [cellsU_get hj] at hu
        rw [hlen] at hj
        have hj2 : j < zs.length := by omega
        have hbj := hb j hj2
        rw [← hu, hc j hj2]
        simp [hj2]
        omega
    · intro hs
      rw [hlen]
      simp only [DataW.weights, Tryd.underlying24, DataW.weightsEach, Tryd.underlying22, List.all_append, List.all_cons, Bool.and_eq_true, bytes_limb, lits, List.length_map, List.length_take, List.length_drop, reachBytes, List.map_cons, List.map_nil] at hs
      have h4 := of_decide_eq_true hs.2.1.1
      omega
end Go.Proofs.YtkncbenhfcpgkaaDoor
