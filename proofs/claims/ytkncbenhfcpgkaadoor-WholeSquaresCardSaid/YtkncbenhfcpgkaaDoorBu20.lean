/- Several texts in one: Nums, Builder, DecLaw. -/
import Derived.Test.YtkncbenhfcpgkaaDoorBu19
import Derived.Test.YtkncbenhfcpgkaaDoorBu03
import Derived.Test.YtkncbenhfcpgkaaDoorBu02
import Derived.Test.YtkncbenhfcpgkaaDoorBu01
import Derived.Test.YtkncbenhfcpgkaaDoorBu17
import Derived.Test.YtkncbenhfcpgkaaDoorBu18
import Derived.Test.YtkncbenhfcpgkaaDoorBu09
import Derived.Test.YtkncbenhfcpgkaaDoorBu13
import Derived.Test.YtkncbenhfcpgkaaDoorBu04
import Derived.Test.YtkncbenhfcpgkaaDoorBu11
import Derived.Test.YtkncbenhfcpgkaaDoorBu12
import Derived.Test.YtkncbenhfcpgkaaDoorBu06
import Derived.Test.YtkncbenhfcpgkaaDoorBu05
import Derived.Test.YtkncbenhfcpgkaaDoorBu10
import Derived.Test.YtkncbenhfcpgkaaDoorBu08
import Derived.Test.YtkncbenhfcpgkaaDoorBu16
import Derived.Test.YtkncbenhfcpgkaaDoorBu14
import Derived.Test.YtkncbenhfcpgkaaDoorBu15
import Derived.Test.YtkncbenhfcpgkaaDoorBu07
import Derived.Test.YtkncbenhfcpgkaaDoorBuHd
import Derived.Lib.Builder
import Derived.Lib.AppendStr
import Derived.Lib.Slices
import Derived.Lib.Walk
import Derived.Lib.Strings
import Derived.Laws.Externs
import Derived.WalkKit
import Derived.Lib.ItoaNum
set_option maxRecDepth 100000
set_option maxHeartbeats 8000000
/- Variables that hold numbers; lists of numbers handed to may, small. -/
namespace Go.Proofs.YtkncbenhfcpgkaaDoor
open Go.RowKit

theorem reads_new (w : World) (t : TypeId) (size n : Nat) (cs : List Value) (h : cs.length = n * size) : Reads (w.alloc (.cells cs.toArray t)) (w.heap.size + 1) size (some ⟨w.heap.size, 0, none⟩) n cs :=
  ⟨h, fun _ => ⟨⟨w.heap.size, 0, none⟩, rfl, Nat.lt_succ_self _, fun j u hu => by
    rw [show (⟨w.heap.size, 0, none⟩ : Addr).add j = ⟨w.heap.size, j, none⟩ by unfold Addr.add; split <;> simp_all, (Blk.new w t cs.toArray).cell j, ← hu]
    simp⟩⟩
theorem may_list (l : List Num) (hl : l.length ≤ 1000) (V : World) (hr : ∀ m ∈ l, Raw V m.2.1 m.2.2.1 m.2.2.2) (t : TypeId) (b : Bool) (hb : b = l.all okNum) :
    Calls Tryd.prog 6 #[.slice (some ⟨V.heap.size, 0, none⟩) l.length l.length] (V.alloc (.cells (cellsNum l).toArray t)) fun e w' => e = .returned (.bool b) ∧ Below V.heap.size V w' := by
  have hlen : ∀ l : List Num, (cellsNum l).length = l.length * 2 := by
    intro l
    unfold cellsNum
    induction l with
    | nil => rfl
    | cons a r ih => rw [List.flatMap_cons, List.length_append, ih]; simp; omega
  have hn := reads_new V t 2 l.length (cellsNum l) (hlen l)
  refine (may_any (some ⟨V.heap.size, 0, none⟩) l.length l hl _ (fun m hm => (hr m hm).alloc _) (hn.more (by simp))).mono ?_
  rintro e w' ⟨rfl, h⟩
  exact ⟨by rw [hb], belowTo ((Below.refl _ _).alloc (Nat.le_refl _) _) h⟩
theorem okNum_fit {z : Int} {A : Option Addr} {c : Nat} (h : Fit z) : okNum (decide (z < 0), A, c, natL z.natAbs) = true := h.ok
theorem may1 (x : Int) (A : Option Addr) (c : Nat) (V : World) (h : Raw V A c (natL x.natAbs)) (t : TypeId) (b : Bool) (hb : b = decide (Fit x)) :
    Calls Tryd.prog 6 #[.slice (some ⟨V.heap.size, 0, none⟩) 1 1] (V.alloc (.cells #[.bool (decide (x < 0)), .slice A (natL x.natAbs).length c] t)) fun e w' => e = .returned (.bool b) ∧ Below V.heap.size V w' :=
  may_list [(decide (x < 0), A, c, natL x.natAbs)] (by simp) V (by intro m hm; simp at hm; subst hm; exact h) t b (by
    rw [hb]
    simp only [List.all_cons, List.all_nil, Bool.and_true]
    by_cases f : Fit x
    · rw [okNum_fit f]; simp [f]
    · have : okNum (decide (x < 0), A, c, natL x.natAbs) = false := by
        rw [Bool.eq_false_iff]; intro o; exact f (fit_of o)
      rw [this]; simp [f])
theorem of_n (n z : Int) (h : z = n) (h1 : -9223372036854775808 ≤ n) (h2 : n ≤ 9223372036854775807) (w : World) : Calls Tryd.prog 10 #[.int .i64 n] w (RetN1 w z) := by
  rw [h]; exact of_z n h1 h2 w
/- strings.Builder of a call's own: copyCheck, WriteByte, WriteString at this dump (whose copyCheck has no panic's text: so the shelf's do not lie here). -/

theorem builderSize : (Tryd.prog.info? 73).map (·.size) = some 2 := by kernel_rfl
theorem builderLies : liesAt Tryd.prog Tryd.prog.depth 73 (2 / Tryd.prog.cellsOf 73) 0 73 1 = true := by kernel_rfl
theorem byteInfo : (Tryd.prog.info? 5).map (fun i => (i.zero, i.size, i.bytes)) = some (some (.int .u8 0), 1, 1) := by kernel_rfl
abbrev Bld (B b : Nat) (bs : List Value) (w : World) : Prop := Lib.IsBuilder 73 5 B b bs w

theorem check_used (b : Nat) (w : World) (h0 : w.cell? ⟨b, 0, none⟩ = some (.pointer (some ⟨b, 0, none⟩))) :
    Calls Tryd.prog 60 #[.pointer (some ⟨b, 0, none⟩)] w fun e w' => e = .returned (.tuple #[]) ∧ w' = w := by
  obtain ⟨j, hj, -⟩ := Option.map_eq_some_iff.1 builderSize
  go_enter Tryd.func60, Tryd.ntmps60
  go_wp2
  rw [Lib.run_neq_ptr_same w _ Tryd.underlying70 hj]
  go_wp2
  go_end0
  exact ⟨rfl, rfl⟩

theorem check_fresh (b : Nat) (w : World) (h0 : w.cell? ⟨b, 0, none⟩ = some (.pointer none)) (hsh : w.shape? b = some (73, 2)) (hfz : w.frozen? ⟨b, 0, none⟩ = false) :
    Calls Tryd.prog 60 #[.pointer (some ⟨b, 0, none⟩)] w fun e w' => e = .returned (.tuple #[]) ∧ w' = w.setCell ⟨b, 0, none⟩ (.pointer (some ⟨b, 0, none⟩)) := by
  obtain ⟨j, hj, hjs⟩ := Option.map_eq_some_iff.1 builderSize
  go_enter Tryd.func60, Tryd.ntmps60
  go_wp2
  rw [Lib.run_to_unsafe w ⟨b, 0, none⟩ Tryd.underlying70 Tryd.underlying88 hj (by rw [hjs]; decide) hsh (Nat.zero_lt_succ 1)]
  simp only [Result.andThen]
  rw [Oper.upon_value]
  go_wp2
  rw [run_callFunc_extern Tryd.func63 (by kernel_rfl) (by kernel_rfl) (by kernel_rfl) (e := Extern.AbiNoEscape.same) (by kernel_rfl)]
  rw [Lib.run_noEscape]
  simp only [Result.andThen]
  rw [Oper.upon_value]
  go_wp2
  rw [Lib.run_from_unsafe w ⟨b, 0, none⟩ Tryd.underlying88 Tryd.underlying70 hj hsh builderLies]
  simp only [Result.andThen]
  rw [Oper.upon_value]
  go_wp2
  go_end0
  exact ⟨rfl, rfl⟩

theorem builder_check (B b : Nat) (bs : List Value) (w : World) (h : Bld B b bs w) :
    Calls Tryd.prog 60 #[.pointer (some ⟨b, 0, none⟩)] w fun e w' => e = .returned (.tuple #[]) ∧ Lib.BuilderAt 73 5 B b (.pointer (some ⟨b, 0, none⟩)) bs w' ∧ Below B w w' ∧ w'.heap.size = w.heap.size ∧ w.grownBy w' (some b) := by
  rcases h with h | h
  · refine (check_fresh b w h.cell0 h.shape h.frozen0).mono ?_
    rintro e w' ⟨rfl, rfl⟩
    exact ⟨rfl, h.used _, (Below.refl B w).setCell (p := ⟨b, 0, none⟩) h.1 _, by simp [World.setCell], ⟨rfl, rfl, rfl, by simp [World.setCell], fun k _ hk => Below.heap_setCell _ _ _ _ (fun e => hk (by simp [e]))⟩⟩
  · refine (check_used b w h.cell0).mono ?_
    rintro e w' ⟨rfl, rfl⟩
    exact ⟨rfl, h, Below.refl B _, rfl, World.grownBy.refl _ _⟩

theorem write_byte (B b : Nat) (bs : List Value) (u : Int) (w : World) (h : Bld B b bs w) (hlen : bs.length + 1 ≤ 140737488355328) (hBw : B ≤ w.heap.size) :
    Calls Tryd.prog 48 #[.pointer (some ⟨b, 0, none⟩), .int .u8 u] w fun e w' => e = .returned .nilIface ∧ Bld B b (bs ++ [.int .u8 u]) w' ∧ Below B w w' := by
  obtain ⟨i0, hi, hz0, hz1, hz2⟩ := info_parts byteInfo
  have C := Hd (builder_check B b bs w h)
  clear h
  go_enter Tryd.func48, Tryd.ntmps48
  go_wp2_with fail
  refine C.out.mono ?_
  rintro e w1 ⟨rfl, ⟨hB, v, hbk, hown, hne⟩, hb1, hs1, -⟩
  have c0 : w1.cell? ⟨b, 0, none⟩ = some (.pointer (some ⟨b, 0, none⟩)) := by rw [Lib.cell_of_heap hbk]; rfl
  have c1 : w1.cell? ⟨b, 1, none⟩ = some v := by rw [Lib.cell_of_heap hbk]; rfl
  have hlt : b < w1.heap.size := by
    rcases Nat.lt_or_ge b w1.heap.size with h' | h'
    · exact h'
    · simp [Array.getElem?_eq_none h'] at hbk
  have HB1 := Hd hb1
  have hBw1 : B ≤ w1.heap.size := by omega
  have hwl : w.heap.size ≤ w1.heap.size := by omega
  clear C hb1 hs1
  go_wp2_with (
      at_builtin
      refine wpList_append_own _ rfl _ _ 71 rfl B 5 i0 (.int .u8 0) 1 1 Tryd.underlying71 hi hz0 hz1 hz2 rfl (by decide) _ _ _ rfl (hown.alloc _) ⟨w1.heap.size, 0, none⟩ 1 1 [.int .u8 u] rfl rfl (by
      intro j x hj
      match j, hj with
      | 0, hj => simp at hj; subst hj; simp [Addr.add]) (by intro x hx; simp at hx; subst hx; rfl) (by unfold maxLen; omega) (by omega) (by simp; omega) ?_
      intro v' w2 hown' hgrow hat'
      have hb2 : w2.heap[b]? = some (.cells #[.pointer (some ⟨b, 0, none⟩), v] 73 (0, 0)) := by
        rw [hgrow.block b (by simp; omega) (fun e => hne e.symm), Lib.alloc_old w1 _ b hlt]
        exact hbk
      have d0 : w2.cell? ⟨b, 0, none⟩ = some (.pointer (some ⟨b, 0, none⟩)) := by rw [Lib.cell_of_heap hb2]; rfl
      have d1 : w2.cell? ⟨b, 1, none⟩ = some v := by rw [Lib.cell_of_heap hb2]; rfl
      have f1 : w2.frozen? ⟨b, 1, none⟩ = false := Lib.frozen_of_heap hb2 1
      obtain ⟨g, cap, rfl⟩ : ∃ g cap, v' = .slice (some ⟨g, 0, none⟩) (bs.length + 1) cap := by
        rcases hown'.2 with ⟨_, h0⟩ | ⟨g, cap, cur, hv, _⟩
        · omega
        · exact ⟨g, cap, hv⟩)
  go_ret
  refine ⟨rfl, .inr ?_, ?_⟩
  · exact Lib.BuilderAt.put (T := 73) (e := 5) hB hb2 (bs' := bs ++ [.int .u8 u]) (by simpa using hown') (by decide)
  · exact ((HB1.out.alloc (by omega) _).grown hgrow (by simp; omega) (fun k hk => (hown.lt k hk).1)).setCell (p := ⟨b, 1, none⟩) hB _

theorem write_string (B b : Nat) (bs : List Value) (s : ByteArray) (w : World) (h : Bld B b bs w) (hlen : bs.length + s.size ≤ 140737488355328) (hBw : B ≤ w.heap.size) :
    Calls Tryd.prog 49 #[.pointer (some ⟨b, 0, none⟩), .string s] w fun e w' => e = .returned (.tuple #[.int .i64 s.size, .nilIface]) ∧ Bld B b (bs ++ Lib.strCells s) w' ∧ Below B w w' := by
  obtain ⟨i0, hi, hz0, hz1, hz2⟩ := info_parts byteInfo
  have C := Hd (builder_check B b bs w h)
  clear h
  go_enter Tryd.func49, Tryd.ntmps49
  go_wp2_with fail
  refine C.out.mono ?_
  rintro e w1 ⟨rfl, ⟨hB, v, hbk, hown, hne⟩, hb1, hs1, -⟩
  have c0 : w1.cell? ⟨b, 0, none⟩ = some (.pointer (some ⟨b, 0, none⟩)) := by rw [Lib.cell_of_heap hbk]; rfl
  have c1 : w1.cell? ⟨b, 1, none⟩ = some v := by rw [Lib.cell_of_heap hbk]; rfl
  have hlt : b < w1.heap.size := by
    rcases Nat.lt_or_ge b w1.heap.size with h' | h'
    · exact h'
    · simp [Array.getElem?_eq_none h'] at hbk
  have HB1 := Hd hb1
  have hBw1 : B ≤ w1.heap.size := by omega
  have hwl : w.heap.size ≤ w1.heap.size := by omega
  clear C hb1 hs1
  go_wp2_with (
      at_builtin
      refine Lib.wpList_append_own_string _ rfl _ _ 71 9 rfl B 5 i0 Tryd.underlying71 Tryd.underlying9 hi hz0 hz1 hz2 _ _ _ rfl hown s rfl (by unfold maxLen; omega) (by omega) (by omega) ?_
      intro v' w2 hown' hgrow hat'
      have hb2 : w2.heap[b]? = some (.cells #[.pointer (some ⟨b, 0, none⟩), v] 73 (0, 0)) := by
        rw [hgrow.block b hlt (fun e => hne e.symm)]
        exact hbk
      have d0 : w2.cell? ⟨b, 0, none⟩ = some (.pointer (some ⟨b, 0, none⟩)) := by rw [Lib.cell_of_heap hb2]; rfl
      have d1 : w2.cell? ⟨b, 1, none⟩ = some v := by rw [Lib.cell_of_heap hb2]; rfl
      have f1 : w2.frozen? ⟨b, 1, none⟩ = false := Lib.frozen_of_heap hb2 1
      obtain ⟨ao, n', cap, rfl⟩ : ∃ ao n' cap, v' = .slice ao n' cap := by
        rcases hown'.2 with ⟨hv, _⟩ | ⟨g, cap, cur, hv, _⟩
        · exact ⟨_, _, _, hv⟩
        · exact ⟨_, _, _, hv⟩)
  go_ret2
  refine ⟨rfl, .inr ?_, ?_⟩
  · exact Lib.BuilderAt.put (T := 73) (e := 5) hB hb2 (bs' := bs ++ Lib.strCells s) (by simpa [Lib.strCells_length] using hown') (by decide)
  · exact (HB1.out.grown hgrow (by omega) (fun k hk => (hown.lt k hk).1)).setCell (p := ⟨b, 1, none⟩) hB _
/- Decimal digits by nines: plain Lean. -/

def padN : Nat → Nat → List UInt8
  | 0, _ => []
  | k + 1, c => padN k (c / 10) ++ [UInt8.ofNat (48 + c % 10)]
theorem padN_length : ∀ (k c : Nat), (padN k c).length = k
  | 0, _ => rfl
  | k + 1, c => by simp [padN, padN_length k]
theorem dec_last {v : Nat} (h : 10 ≤ v) : Lib.decDigits v = Lib.decDigits (v / 10) ++ [UInt8.ofNat (48 + v % 10)] := by
  rw [Lib.decDigits, dif_neg (by omega)]
theorem dec_split : ∀ (k v : Nat), 10 ^ k ≤ v → Lib.decDigits v = Lib.decDigits (v / 10 ^ k) ++ padN k v
  | 0, v, _ => by simp [padN]
  | k + 1, v, h => by
    have e : 10 ^ (k + 1) = 10 * 10 ^ k := by rw [Nat.pow_succ, Nat.mul_comm]
    have hp : 0 < 10 ^ k := Nat.pow_pos (by omega)
    have h10 : 10 ≤ v := by
      have : 10 * 1 ≤ 10 * 10 ^ k := Nat.mul_le_mul_left _ hp
      omega
    have hk : 10 ^ k ≤ v / 10 := by
      rw [Nat.le_div_iff_mul_le (by omega), Nat.mul_comm]; omega
    rw [dec_last h10, dec_split k (v / 10) hk, padN, e, Nat.div_div_eq_div_mul, List.append_assoc]
theorem padN_dec : ∀ (k c : Nat), 0 < k → c < 10 ^ k → padN k c = List.replicate (k - (Lib.decDigits c).length) 48 ++ Lib.decDigits c
  | 0, _, h, _ => absurd h (by omega)
  | k + 1, c, _, hc => by
    rw [padN]
    rcases Nat.lt_or_ge c 10 with h | h
    · have e0 : c / 10 = 0 := by omega
      have em : c % 10 = c := by omega
      rw [e0, em, Lib.decDigits_one h]
      have z : ∀ j, padN j 0 = List.replicate j 48 := by
        intro j
        induction j with
        | zero => rfl
        | succ j ih => rw [padN, Nat.zero_div, ih, List.replicate_succ']; rfl
      rw [z]; simp
    · have hk : 0 < k := by
        rcases Nat.eq_zero_or_pos k with h0 | h0
        · subst h0; simp at hc; omega
        · exact h0
      have hc2 : c / 10 < 10 ^ k := by
        rw [Nat.div_lt_iff_lt_mul (by omega), Nat.mul_comm, ← Nat.pow_succ']; exact hc
      rw [padN_dec k (c / 10) hk hc2, dec_last h, List.append_assoc]
      simp
theorem padN_mod (k : Nat) : ∀ (c : Nat), padN k (c % 10 ^ k) = padN k c := by
  induction k with
  | zero => intro c; rfl
  | succ k ih =>
    intro c
    rw [padN, padN]
    have e : 10 ^ (k + 1) = 10 * 10 ^ k := by rw [Nat.pow_succ, Nat.mul_comm]
    have e1 : c % 10 ^ (k + 1) / 10 = c / 10 % 10 ^ k := by rw [e, Nat.mod_mul_right_div_self]
    have e2 : c % 10 ^ (k + 1) % 10 = c % 10 := by rw [e, Nat.mod_mul_right_mod]
    rw [e1, e2, ih]
theorem pad9 (c : Nat) (h : c < 1000000000) : padN 9 c = List.replicate (9 - (Lib.decDigits c).length) 48 ++ Lib.decDigits c := padN_dec 9 c (by omega) (by simpa using h)
theorem dec_nine {v : Nat} (h : 1000000000 ≤ v) : Lib.decDigits v = Lib.decDigits (v / 1000000000) ++ padN 9 (v % 1000000000) := by
  have e : (10 : Nat) ^ 9 = 1000000000 := by decide
  have := dec_split 9 v (by rw [e]; exact h)
  rw [← padN_mod, e] at this
  exact this
def chunks (v : Nat) : List Nat := if h : v = 0 then [] else (v % 1000000000) :: chunks (v / 1000000000)
decreasing_by omega
theorem chunks_nil : chunks 0 = [] := by rw [chunks, dif_pos rfl]
theorem chunks_cons {v : Nat} (h : v ≠ 0) : chunks v = (v % 1000000000) :: chunks (v / 1000000000) := by rw [chunks, dif_neg h]
theorem chunks_lt : ∀ (v : Nat), ∀ c ∈ chunks v, c < 1000000000 := by
  intro v
  induction v using Nat.strongRecOn with
  | ind v ih =>
    intro c hc
    by_cases h : v = 0
    · subst h; rw [chunks_nil] at hc; simp at hc
    · rw [chunks_cons h] at hc
      rcases List.mem_cons.1 hc with rfl | hc
      · omega
      · exact ih _ (by omega) c hc
def chunkText : List Nat → List UInt8
  | [] => []
  | [c] => Lib.decDigits c
  | c :: d :: r => chunkText (d :: r) ++ padN 9 c
theorem chunk_text : ∀ (v : Nat), v ≠ 0 → chunkText (chunks v) = Lib.decDigits v := by
  intro v
  induction v using Nat.strongRecOn with
  | ind v ih =>
    intro h
    rw [chunks_cons h]
    by_cases h2 : v / 1000000000 = 0
    · rw [h2, chunks_nil]
      show Lib.decDigits (v % 1000000000) = _
      rw [Nat.mod_eq_of_lt (by omega)]
    · rw [dec_nine (by omega), ← ih _ (by omega) h2, chunks_cons h2]
      rfl
theorem dec_short : ∀ (k c : Nat), 0 < k → c < 10 ^ k → (Lib.decDigits c).length ≤ k
  | 0, _, h, _ => absurd h (by omega)
  | k + 1, c, _, hc => by
    rcases Nat.lt_or_ge c 10 with h | h
    · rw [Lib.decDigits_one h]; simp
    · have hk : 0 < k := by
        rcases Nat.eq_zero_or_pos k with h0 | h0
        · subst h0; simp at hc; omega
        · exact h0
      have hc2 : c / 10 < 10 ^ k := by
        rw [Nat.div_lt_iff_lt_mul (by omega), Nat.mul_comm, ← Nat.pow_succ']; exact hc
      have := dec_short k (c / 10) hk hc2
      rw [dec_last h]; simp; omega
theorem dec_nine_len {c : Nat} (h : c < 1000000000) : (Lib.decDigits c).length ≤ 9 := dec_short 9 c (by omega) (by simpa using h)
theorem chunkText_length : ∀ (cs : List Nat), (∀ c ∈ cs, c < 1000000000) → (chunkText cs).length ≤ 9 * cs.length
  | [], _ => by simp [chunkText]
  | [c], h => by have := dec_nine_len (h c (by simp)); simp [chunkText]; omega
  | c :: d :: r, h => by
    have := chunkText_length (d :: r) (fun x hx => h x (List.mem_cons_of_mem _ hx))
    simp [chunkText, padN_length] at *
    omega
theorem chunk_top {cs : List Nat} {m : Nat} (h : m + 1 = cs.length) : chunkText (cs.drop m) = Lib.decDigits (cs[m]'(by omega)) := by
  have e : cs.drop m = [cs[m]'(by omega)] := by
    rw [List.drop_eq_getElem_cons (by omega), List.drop_eq_nil_of_le (by omega)]
  rw [e]; rfl
theorem chunk_next {cs : List Nat} {m : Nat} (h : m + 1 < cs.length) : chunkText (cs.drop m) = chunkText (cs.drop (m + 1)) ++ padN 9 (cs[m]'(by omega)) := by
  have e : cs.drop m = cs[m]'(by omega) :: cs[m + 1]'h :: cs.drop (m + 1 + 1) := by
    rw [List.drop_eq_getElem_cons (by omega), List.drop_eq_getElem_cons h]
  have e2 : cs.drop (m + 1) = cs[m + 1]'h :: cs.drop (m + 1 + 1) := List.drop_eq_getElem_cons h
  rw [e, e2]; rfl
end Go.Proofs.YtkncbenhfcpgkaaDoor
