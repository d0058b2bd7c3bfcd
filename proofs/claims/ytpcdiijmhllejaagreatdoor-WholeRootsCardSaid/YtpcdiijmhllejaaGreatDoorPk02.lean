/- Several texts in one: Signed, Shelf, Of. -/
import Derived.Test.YtpcdiijmhllejaaGreatDoorPk01
import Derived.Shelf.Small.Bits
import Derived.Shelf.Strconv.Itoa0
import Derived.Test.YtpcdiijmhllejaaGreatDoorProg
/- signed, Of: a number's memory. -/
namespace Go.Proofs.YtpcdiijmhllejaaGreatDoor
open Go.RowKit

/-- A slice of limbs that came in. -/
structure Raw (w : World) (A : Option Addr) (c : Nat) (xs : List Nat) : Prop where
  limbs : Limbs xs
  cap : xs.length ≤ c
  most : c ≤ 9223372036854775807
  reads : ReadsU w w.heap.size A xs
theorem Raw.below {w w' : World} {A : Option Addr} {c : Nat} {xs : List Nat} (h : Raw w A c xs) (hb : Below w.heap.size w w') : Raw w' A c xs :=
  ⟨h.limbs, h.cap, h.most, (h.reads.below hb).more hb.size⟩
theorem Raw.alloc {w : World} {A : Option Addr} {c : Nat} {xs : List Nat} (h : Raw w A c xs) (o : Obj) : Raw (w.alloc o) A c xs := h.below ((Below.refl _ _).alloc (Nat.le_refl _) o)

set_option maxRecDepth 100000 in
set_option maxHeartbeats 400000 in
theorem exact_signed_nought (neg : Bool) (A : Option Addr) (c : Nat) (xs : List Nat) (w : World) (h : Raw w A c xs) (hv : val xs = 0) :
    Calls Tryz.prog 102 #[.bool neg, .slice A xs.length c] w fun e w' => e = .returned (.agg #[.bool false, .slice none 0 0]) ∧ Below w.heap.size w w' := by
  have C := exact_trim A c xs h.limbs h.cap h.most (w.heap.size) (w.alloc (.cells #[.bool false, .slice none 0 0] 24)) (h.reads.alloc (Nat.le_refl _) _)
  rw [hv, natL_zero, List.length_nil] at C
  have HC := Lib.hid C
  clear C hv
  go_enter Tryz.func102, Tryz.ntmps102
  go_wp2_with (first | (go_at_call 156; with_reducible refine HC.out.mono ?_; rintro e w' ⟨rfl, rfl⟩))
  exact bodyPost_ret (by simp [results, Tryz.results102, go_sem]) rfl ⟨rfl, by repeat (first | exact Below.refl _ _ | apply Below.drew | refine Below.alloc ?_ (by simp; try omega) _)⟩

set_option maxRecDepth 100000 in
set_option maxHeartbeats 400000 in
theorem exact_signed_more (neg : Bool) (A : Option Addr) (c : Nat) (xs : List Nat) (w : World) (h : Raw w A c xs) (hv : val xs ≠ 0) :
    Calls Tryz.prog 102 #[.bool neg, .slice A xs.length c] w fun e w' => e = .returned (.agg #[.bool neg, .slice A (natL (val xs)).length c]) ∧ Below w.heap.size w w' := by
  have C := exact_trim A c xs h.limbs h.cap h.most (w.heap.size) (w.alloc (.cells #[.bool false, .slice none 0 0] 24)) (h.reads.alloc (Nat.le_refl _) _)
  have hne : (natL (val xs)).length ≠ 0 := fun h0 => hv (natL_eq_nil.1 (List.eq_nil_of_length_eq_zero h0))
  have hle := natL_val_le h.limbs
  have h1 := h.cap
  have h2 := h.most
  have HC := Lib.hid C
  clear C hv h
  generalize (natL (val xs)).length = n at *
  have hb : ((n : Int) == 0) = false := by simp; omega
  go_enter Tryz.func102, Tryz.ntmps102
  go_wp2_with (first | (go_at_call 156; with_reducible refine HC.out.mono ?_; rintro e w' ⟨rfl, rfl⟩))
  exact bodyPost_ret (by simp [results, Tryz.results102, go_sem]) rfl ⟨rfl, by repeat (first | exact Below.refl _ _ | apply Below.drew | refine Below.alloc ?_ (by simp; try omega) _)⟩

/-- A number that the call made: its sign, its limbs in a row of the call's own. -/
structure IntOwn (w : World) (base : Nat) (v : Value) (x : Int) : Prop where
  form : ∃ A c, v = .agg #[.bool (decide (x < 0)), .slice A (natL x.natAbs).length c] ∧ (natL x.natAbs).length ≤ c ∧ c ≤ 9223372036854775807 ∧ w.ownsRow base 60 1 (.slice A (natL x.natAbs).length c) (natL x.natAbs).length (cellsU (natL x.natAbs))

theorem IntOwn.nought (w : World) (base : Nat) : IntOwn w base (.agg #[.bool false, .slice none 0 0]) 0 :=
  ⟨none, 0, rfl, Nat.le_refl _, by omega, World.ownsRow_nil _ _ _ _⟩
theorem IntOwn.below {w w' : World} {base : Nat} {v : Value} {x : Int} (h : IntOwn w base v x) (hb : Below w.heap.size w w') : IntOwn w' base v x := by
  obtain ⟨A, c, h1, h2, h3, h4⟩ := h.form
  exact ⟨A, c, h1, h2, h3, own_below h4 hb⟩
theorem IntOwn.alloc {w : World} {base : Nat} {v : Value} {x : Int} (h : IntOwn w base v x) (o : Obj) : IntOwn (w.alloc o) base v x := h.below ((Below.refl _ _).alloc (Nat.le_refl _) o)
theorem IntOwn.raw {w : World} {base : Nat} {v : Value} {x : Int} (h : IntOwn w base v x) : ∃ A c, v = .agg #[.bool (decide (x < 0)), .slice A (natL x.natAbs).length c] ∧ Raw w A c (natL x.natAbs) := by
  obtain ⟨A, c, h1, h2, h3, h4⟩ := h.form
  exact ⟨A, c, h1, limbs_natL _, h2, h3, Reads.of_own h4⟩
/-- A row cut at its end. -/
theorem own_take {w : World} {base : Nat} {e : TypeId} {A : Option Addr} {n c k : Nat} {xs : List Value} (h : w.ownsRow base e 1 (.slice A n c) n xs) (hk : k ≤ n) (hk0 : k ≠ 0) : w.ownsRow base e 1 (.slice A k c) k (xs.take k) := by
  rcases h.2 with ⟨h1, h2⟩ | ⟨g, cap, cur, h1, h2, h3, h4, h5, h6, h7⟩
  · omega
  · injection h1 with a1 a2 a3
    subst a1 a3
    have hl := h.1
    refine ⟨by rw [List.length_take]; omega, .inr ⟨g, c, cur, rfl, h2, h3, by omega, h5, h6, ?_⟩⟩
    rw [← h7, List.take_take, Nat.min_eq_left (by omega), Nat.mul_one]
theorem IntOwn.signed {w : World} {base : Nat} {A : Option Addr} {c : Nat} {xs : List Nat} (hx : Limbs xs) (h : w.ownsRow base 60 1 (.slice A xs.length c) xs.length (cellsU xs)) (hc : xs.length ≤ c) (hm : c ≤ 9223372036854775807) {x : Int} {neg : Bool} (hxv : x = if neg then -(val xs : Int) else val xs) (hv : val xs ≠ 0) :
    IntOwn w base (.agg #[.bool neg, .slice A (natL (val xs)).length c]) x := by
  have ha : x.natAbs = val xs := by rw [hxv]; split <;> omega
  have hn : decide (x < 0) = neg := by rw [hxv]; cases neg <;> simp <;> omega
  have hle := natL_val_le hx
  have hne : (natL (val xs)).length ≠ 0 := fun h0 => hv (natL_eq_nil.1 (List.eq_nil_of_length_eq_zero h0))
  refine ⟨A, c, by rw [ha, hn], by rw [ha]; omega, hm, ?_⟩
  rw [ha]
  have := own_take h hle hne
  rw [← cellsU_take, ← natL_take hx] at this
  exact this
end Go.Proofs.YtpcdiijmhllejaaGreatDoor

/-
  DERIVED: THE SHELF's CONTRACTS AT THIS DUMP, IN PLAIN WORDS (tools/lay-plain.mjs out of 'TryzShelf.lean', which tools/lay-shelf.mjs wrote): THE SAME DECLARATIONS UNDER THE SAME NAMES: 'import', 'namespace', 'open', 'def', 'theorem' AND NOTHING ELSE: no command of the shelf's: FOR A HAND-IN. Each laying: the table of numbers ('.._ren') and one theorem, a field a fact of the dump's own or the kernel's comparison; each contract: ONE APPLICATION.
-/
namespace Go.Proofs
open Go.Shelf
def Tryz.lays128_ren : Go.Shelf.Ren := ⟨fun | 128 => 157 | n => n, fun | 51 => 60 | 3 => 3 | 4 => 4 | 46 => 76 | 5 => 5 | 9 => 9 | n => n, fun | n => n⟩
theorem Tryz.lays128 : Go.Proofs.Lays.n128 Tryz.prog Tryz.lays128_ren := {
  mixed := by kernel_rfl
  f128 := Tryz.func157.trans (congrArg some (by kernel_rfl))
  t3 := Tryz.underlying3
  a3 := Tryz.isAgg3
  z3 := Tryz.sizeOf3
  v3 := Tryz.zeroValue3
  t4 := Tryz.underlying4
  a4 := Tryz.isAgg4
  z4 := Tryz.sizeOf4
  v4 := Tryz.zeroValue4
  t5 := Tryz.underlying5
  a5 := Tryz.isAgg5
  z5 := Tryz.sizeOf5
  v5 := Tryz.zeroValue5
  t9 := Tryz.underlying9
  a9 := Tryz.isAgg9
  z9 := Tryz.sizeOf9
  v9 := Tryz.zeroValue9
  t46 := Tryz.underlying76
  a46 := Tryz.isAgg76
  z46 := Tryz.sizeOf76
  v46 := Tryz.zeroValue76
  t51 := Tryz.underlying60
  a51 := Tryz.isAgg60
  z51 := Tryz.sizeOf60
  v51 := Tryz.zeroValue60 }
/-- bits.Len32: "Len32 returns the minimum number of bits required to represent x; the result is 0 for x == 0.": IT RETURNS 'Lib.bitLen x'; the world is as it was. ('h0', 'h1': x is a uint32.) (LAID: no walk: one application.) -/
theorem Tryz.bits_Len32 (x : Int) (w : World) (h0 : 0 ≤ x) (h1 : x ≤ 4294967295) :
    Calls Tryz.prog 157 #[.int .u32 x] w fun e w' => e = .returned (.int .i64 (Lib.bitLen x.toNat)) ∧ w' = w := Any.bits_Len32 Tryz.lays128 x w h0 h1
def Tryz.lays133_ren : Go.Shelf.Ren := ⟨fun | 133 => 173 | 128 => 157 | n => n, fun | 51 => 60 | 3 => 3 | 4 => 4 | 46 => 76 | 5 => 5 | 9 => 9 | n => n, fun | n => n⟩
theorem Tryz.lays133 : Go.Proofs.Lays.n133 Tryz.prog Tryz.lays133_ren := {
  mixed := by kernel_rfl
  f128 := Tryz.func157.trans (congrArg some (by kernel_rfl))
  f133 := Tryz.func173.trans (congrArg some (by kernel_rfl))
  t3 := Tryz.underlying3
  a3 := Tryz.isAgg3
  z3 := Tryz.sizeOf3
  v3 := Tryz.zeroValue3
  t4 := Tryz.underlying4
  a4 := Tryz.isAgg4
  z4 := Tryz.sizeOf4
  v4 := Tryz.zeroValue4
  t5 := Tryz.underlying5
  a5 := Tryz.isAgg5
  z5 := Tryz.sizeOf5
  v5 := Tryz.zeroValue5
  t9 := Tryz.underlying9
  a9 := Tryz.isAgg9
  z9 := Tryz.sizeOf9
  v9 := Tryz.zeroValue9
  t46 := Tryz.underlying76
  a46 := Tryz.isAgg76
  z46 := Tryz.sizeOf76
  v46 := Tryz.zeroValue76
  t51 := Tryz.underlying60
  a51 := Tryz.isAgg60
  z51 := Tryz.sizeOf60
  v51 := Tryz.zeroValue60 }
/-- bits.LeadingZeros32: "LeadingZeros32 returns the number of leading zero bits in x; the result is 32 for x == 0.": IT RETURNS '32 - Lib.bitLen x'; the world is as it was. ITS CALLEE bits.Len32 IS MET BY ITS OWN CONTRACT OFF THE SHELF (lay that first): entered in place it sends the kernel out of memory. (LAID: no walk: one application.) -/
theorem Tryz.bits_LeadingZeros32 (x : Int) (w : World) (h0 : 0 ≤ x) (h1 : x ≤ 4294967295) :
    Calls Tryz.prog 173 #[.int .u32 x] w fun e w' => e = .returned (.int .i64 (32 - (Lib.bitLen x.toNat : Int))) ∧ w' = w := Any.bits_LeadingZeros32 Tryz.lays133 x w h0 h1
def Tryz.lays129_ren : Go.Shelf.Ren := ⟨fun | 129 => 187 | n => n, fun | 53 => 75 | 3 => 3 | 4 => 4 | 46 => 76 | 5 => 5 | 9 => 9 | n => n, fun | n => n⟩
theorem Tryz.lays129 : Go.Proofs.Lays.n129 Tryz.prog Tryz.lays129_ren := {
  mixed := by kernel_rfl
  f129 := Tryz.func187.trans (congrArg some (by kernel_rfl))
  t3 := Tryz.underlying3
  a3 := Tryz.isAgg3
  z3 := Tryz.sizeOf3
  v3 := Tryz.zeroValue3
  t4 := Tryz.underlying4
  a4 := Tryz.isAgg4
  z4 := Tryz.sizeOf4
  v4 := Tryz.zeroValue4
  t5 := Tryz.underlying5
  a5 := Tryz.isAgg5
  z5 := Tryz.sizeOf5
  v5 := Tryz.zeroValue5
  t9 := Tryz.underlying9
  a9 := Tryz.isAgg9
  z9 := Tryz.sizeOf9
  v9 := Tryz.zeroValue9
  t46 := Tryz.underlying76
  a46 := Tryz.isAgg76
  z46 := Tryz.sizeOf76
  v46 := Tryz.zeroValue76
  t53 := Tryz.underlying75
  a53 := Tryz.isAgg75
  z53 := Tryz.sizeOf75
  v53 := Tryz.zeroValue75 }
/-- bits.Len64: "Len64 returns the minimum number of bits required to represent x; the result is 0 for x == 0.": IT RETURNS 'Lib.bitLen x'; the world is as it was. ('h0', 'h1': x is a uint64.) (LAID: no walk: one application.) -/
theorem Tryz.bits_Len64 (x : Int) (w : World) (h0 : 0 ≤ x) (h1 : x ≤ 18446744073709551615) :
    Calls Tryz.prog 187 #[.int .u64 x] w fun e w' => e = .returned (.int .i64 (Lib.bitLen x.toNat)) ∧ w' = w := Any.bits_Len64 Tryz.lays129 x w h0 h1
end Go.Proofs

/- Of, Check, Sign, Bits of package exact and of package whole, over numbers of 64 bits and over whatever limbs come in. -/
namespace Go.Proofs.YtpcdiijmhllejaaGreatDoor
open Go.RowKit

theorem val_two (a b : Nat) : val [a, b] = a + 4294967296 * b := by simp [val]
/-- The two limbs of a number below 2^64. -/
theorem raw_two (w : World) (t : TypeId) (a b : Nat) (ha : a < 4294967296) (hb : b < 4294967296) : Raw (w.alloc (.cells #[.int .u32 a, .int .u32 b] t)) (some ⟨w.heap.size, 0, none⟩) 2 [a, b] := by
  refine ⟨by simp [Limbs]; omega, by simp, by omega, rfl, fun _ => ⟨_, rfl, by simp, ?_⟩⟩
  exact World.news_of_block (heap_alloc_new w _)
theorem own_two (w : World) (base : Nat) (hbase : base ≤ w.heap.size) (a b : Nat) : (w.alloc (.cells #[.int .u32 a, .int .u32 b] 60)).ownsRow base 60 1 (.slice (some ⟨w.heap.size, 0, none⟩) 2 2) 2 (cellsU [a, b]) :=
  ⟨rfl, .inr ⟨w.heap.size, 2, #[.int .u32 a, .int .u32 b], rfl, hbase, heap_alloc_new w _, by omega, by unfold maxLen; omega, rfl, rfl⟩⟩

theorem raw_two1 (w : World) (o : Obj) (t : TypeId) (a b : Nat) (ha : a < 4294967296) (hb : b < 4294967296) : Raw ((w.alloc o).alloc (.cells #[.int .u32 a, .int .u32 b] t)) (some ⟨w.heap.size + 1, 0, none⟩) [a, b].length [a, b] := by
  have h := raw_two (w.alloc o) t a b ha hb
  simpa using h
theorem own_two1 (w : World) (o : Obj) (a b : Nat) : ((w.alloc o).alloc (.cells #[.int .u32 a, .int .u32 b] 60)).ownsRow (w.heap.size + 1) 60 1 (.slice (some ⟨w.heap.size + 1, 0, none⟩) [a, b].length [a, b].length) [a, b].length (cellsU [a, b]) := by
  have h := own_two (w.alloc o) (w.heap.size + 1) (by simp) a b
  simpa using h
/-- What Of hands to signed, and what comes back. -/
theorem two_limbs (m : Nat) (hm : m < 18446744073709551616) : m % 4294967296 < 4294967296 ∧ m / 4294967296 < 4294967296 ∧ val [m % 4294967296, m / 4294967296] = m := by
  rw [val_two]; omega

theorem own_pair {w : World} {g base : Nat} {a b : Value} {e : TypeId} {size n : Nat} {v : Value} {xs : List Value} (h : w.ownsRow base e size v n xs) (hne : v.ownBlock ≠ some g) : ((w.setCell ⟨g, 0, none⟩ a).setCell ⟨g, 1, none⟩ b).ownsRow base e size v n xs := by
  obtain ⟨h1, h2⟩ := h
  refine ⟨h1, ?_⟩
  rcases h2 with h2 | ⟨k, cap, cur, hv, hg, hh, r⟩
  · exact .inl h2
  · have hk : k ≠ g := fun e => hne (by rw [hv, e]; rfl)
    refine .inr ⟨k, cap, cur, hv, hg, ?_, r⟩
    rw [Below.heap_setCell _ _ _ _ hk, Below.heap_setCell _ _ _ _ hk]; exact hh
theorem IntOwn.pair {w : World} {g base : Nat} {a b : Value} {v : Value} {x : Int} (h : IntOwn w base v x) (hne : g < base) : IntOwn ((w.setCell ⟨g, 0, none⟩ a).setCell ⟨g, 1, none⟩ b) base v x := by
  obtain ⟨A, c, h1, h2, h3, h4⟩ := h.form
  refine ⟨A, c, h1, h2, h3, own_pair h4 (fun e => ?_)⟩
  have := (h4.lt g e).1
  omega
theorem IntOwn.base {w : World} {b b' : Nat} {v : Value} {x : Int} (h : IntOwn w b v x) (hb : b' ≤ b) : IntOwn w b' v x := by
  obtain ⟨A, c, h1, h2, h3, h4⟩ := h.form
  refine ⟨A, c, h1, h2, h3, h4.1, ?_⟩
  rcases h4.2 with h5 | ⟨g, cap, cur, k1, k2, k3⟩
  · exact .inl h5
  · exact .inr ⟨g, cap, cur, k1, Nat.le_trans hb k2, k3⟩

/-- A call that hands back a whole number of the call's own. -/
def RetInt (base : Nat) (w : World) (x : Int) (e : Ending) (w' : World) : Prop := ∃ v, e = .returned v ∧ IntOwn w' base v x ∧ Below w.heap.size w w'

set_option maxRecDepth 100000 in
set_option maxHeartbeats 400000 in
theorem exact_Of_nought (w : World) :
    Calls Tryz.prog 152 #[.int .i64 0] w (RetInt w.heap.size w 0) := by
  have C := exact_signed_nought false (some ⟨w.heap.size + 1, 0, none⟩) 2 [0, 0] _ (raw_two1 w (.cells #[.bool false, .slice none 0 0] 24) 60 0 0 (by omega) (by omega)) (by rfl)
  have HC := Lib.hid C
  clear C
  go_enter Tryz.func152, Tryz.ntmps152
  go_wp2_with fail
  refine HC.out.mono ?_
  rintro e w1 ⟨rfl, hb⟩
  have hp := ((Pair.new w 24 (.bool false) (.slice none 0 0)).alloc _).below hb
  have hb1 : Below w.heap.size w w1 := (((Below.refl _ _).alloc (Nat.le_refl _) _).alloc (by simp) _).trans (hb.mono (by simp; omega))
  obtain ⟨hl, c0, c1, f0, f1⟩ := hp.facts
  clear hb HC
  go_wp2_with fail
  have hq := hp.store (.bool false) (.slice none 0 0)
  obtain ⟨_, k0, k1, _, _⟩ := hq.facts
  exact bodyPost_ret (by simp [results, Tryz.results152, go_sem, k0, k1]) rfl ⟨_, rfl, IntOwn.nought _ _, below2 hb1 (Nat.le_refl _) _ _⟩

set_option maxRecDepth 100000 in
set_option maxHeartbeats 400000 in
theorem exact_Of_more (m : Nat) (neg : Bool) (n : Int) (hm0 : m ≠ 0) (hm : m ≤ 9223372036854775808) (hm2 : neg = false → m ≤ 9223372036854775807) (hn : n = if neg then -(m : Int) else m) (w : World) :
    Calls Tryz.prog 152 #[.int .i64 n] w (RetInt w.heap.size w n) := by
  obtain ⟨l1, l2, l3⟩ := two_limbs m (by omega)
  have C := exact_signed_more neg (some ⟨w.heap.size + 1, 0, none⟩) 2 [m % 4294967296, m / 4294967296] _ (raw_two1 w (.cells #[.bool false, .slice none 0 0] 24) 60 _ _ l1 l2) (by rw [l3]; exact hm0)
  have hown := own_two1 w (.cells #[.bool false, .slice none 0 0] 24) (m % 4294967296) (m / 4294967296)
  have fin : ∀ w1, Below ((w.alloc (.cells #[.bool false, .slice none 0 0] 24)).alloc (.cells #[.int .u32 (m % 4294967296 : Nat), .int .u32 (m / 4294967296 : Nat)] 60)).heap.size ((w.alloc (.cells #[.bool false, .slice none 0 0] 24)).alloc (.cells #[.int .u32 (m % 4294967296 : Nat), .int .u32 (m / 4294967296 : Nat)] 60)) w1 →
      IntOwn w1 (w.heap.size + 1) (.agg #[.bool neg, .slice (some ⟨w.heap.size + 1, 0, none⟩) (natL (val [m % 4294967296, m / 4294967296])).length 2]) n := by
    intro w1 hb
    exact IntOwn.signed (by simp [Limbs]; omega) (own_below hown hb) (by simp) (by simp) (by rw [l3]; exact hn) (by rw [l3]; exact hm0)
  rw [l3] at C fin
  have HC := Lib.hid C
  have HF := Lib.hid fin
  clear C fin hown l1 l2 l3
  have hq1 : ((m : Int) % 4294967296) = ((m % 4294967296 : Nat) : Int) := by omega
  have hq2 : ((m : Int) / 4294967296) = ((m / 4294967296 : Nat) : Int) := by omega
  have HQ1 := Lib.hid hq1
  have HQ2 := Lib.hid hq2
  clear hq1 hq2
  cases neg
  · have h2 := hm2 rfl
    simp only [Bool.false_eq_true, if_false] at hn
    subst hn
    have hlt : ¬ (m : Int) < 0 := by omega
    go_enter Tryz.func152, Tryz.ntmps152
    go_wp2_with fail
    rw [HQ1.out, HQ2.out]
    refine HC.out.mono ?_
    rintro e w1 ⟨rfl, hb⟩
    have hI := HF.out w1 hb
    have hp := ((Pair.new w 24 (.bool false) (.slice none 0 0)).alloc _).below hb
    have hb1 : Below w.heap.size w w1 := (((Below.refl _ _).alloc (Nat.le_refl _) _).alloc (by simp) _).trans (hb.mono (by simp; omega))
    obtain ⟨hl, c0, c1, f0, f1⟩ := hp.facts
    clear hb HC HF
    go_wp2_with fail
    have hq := hp.store (.bool false) (.slice (some ⟨w.heap.size + 1, 0, none⟩) (natL m).length 2)
    obtain ⟨_, k0, k1, _, _⟩ := hq.facts
    exact bodyPost_ret (by simp [results, Tryz.results152, go_sem, k0, k1]) rfl ⟨_, rfl, (hI.pair (Nat.lt_succ_self _)).base (Nat.le_succ _), below2 hb1 (Nat.le_refl _) _ _⟩
  · simp only [if_true] at hn
    have he : IntKind.u64.wrap (-IntKind.u64.wrap n) = (m : Int) := by rw [IntKind.wrap_u64, IntKind.wrap_u64]; omega
    have hlt : n < 0 := by omega
    have HN := Lib.hid hn
    clear hn
    go_enter Tryz.func152, Tryz.ntmps152
    go_wp2_with fail
    rw [HQ1.out, HQ2.out]
    refine HC.out.mono ?_
    rintro e w1 ⟨rfl, hb⟩
    have hI := HF.out w1 hb
    have hp := ((Pair.new w 24 (.bool false) (.slice none 0 0)).alloc _).below hb
    have hb1 : Below w.heap.size w w1 := (((Below.refl _ _).alloc (Nat.le_refl _) _).alloc (by simp) _).trans (hb.mono (by simp; omega))
    obtain ⟨hl, c0, c1, f0, f1⟩ := hp.facts
    clear hb HC HF
    go_wp2_with fail
    have hq := hp.store (.bool true) (.slice (some ⟨w.heap.size + 1, 0, none⟩) (natL m).length 2)
    obtain ⟨_, k0, k1, _, _⟩ := hq.facts
    exact bodyPost_ret (by simp [results, Tryz.results152, go_sem, k0, k1]) rfl ⟨_, rfl, (hI.pair (Nat.lt_succ_self _)).base (Nat.le_succ _), below2 hb1 (Nat.le_refl _) _ _⟩

theorem exact_Of (n : Int) (h1 : -9223372036854775808 ≤ n) (h2 : n ≤ 9223372036854775807) (w : World) :
    Calls Tryz.prog 152 #[.int .i64 n] w (RetInt w.heap.size w n) := by
  by_cases h0 : n = 0
  · subst h0; exact exact_Of_nought w
  · refine exact_Of_more n.natAbs (decide (n < 0)) n (by omega) (by omega) ?_ ?_ w
    · intro h; simp at h; omega
    · split
      · rename_i h; simp at h; omega
      · rename_i h; simp at h; omega

end Go.Proofs.YtpcdiijmhllejaaGreatDoor
