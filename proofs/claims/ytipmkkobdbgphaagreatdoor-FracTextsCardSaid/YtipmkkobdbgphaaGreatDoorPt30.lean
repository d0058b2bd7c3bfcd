/- Several texts in one: CutBar, ReadFit, Bytes, TrimDigits. -/
import Derived.Test.YtipmkkobdbgphaaGreatDoorPt29
import Derived.Test.YtipmkkobdbgphaaGreatDoorPtHd
import Derived.Lib.IndexLaws
import Derived.OwnWalk
import Derived.Test.YtipmkkobdbgphaaGreatDoorPt06
import Derived.Lib.UnsafeStr
import Derived.Test.YtipmkkobdbgphaaGreatDoorPt01
import Derived.Shelf.Strings.SlTrimAscii
set_option maxRecDepth 100000
set_option maxHeartbeats 8000000
/- strings.Cut by one bar. -/
namespace Go.Proofs.YtipmkkobdbgphaaGreatDoor
open Go.RowKit

theorem index_front : ∀ {s : List UInt8}, (47 : UInt8) ∈ s → Lib.indexByte s 47 = ((frontS s).length : Int)
  | [], h => by cases h
  | x :: r, h => by
    unfold Lib.indexByte
    by_cases hx : x = 47
    · subst hx; simp [frontS]
    · have hr : (47 : UInt8) ∈ r := (List.mem_cons.1 h).resolve_left fun e => hx e.symm
      have ih := index_front hr
      have e1 : frontS (x :: r) = x :: frontS r := by unfold frontS; rw [List.takeWhile_cons, if_pos (by simpa using hx)]
      rw [if_neg (by simpa using hx), ih, e1, if_neg (by simp), List.length_cons]
      omega
theorem index_no : ∀ {s : List UInt8}, (47 : UInt8) ∉ s → Lib.indexByte s 47 = -1
  | [], _ => rfl
  | x :: r, h => by
    have hx : x ≠ 47 := fun e => h (by rw [e]; exact List.mem_cons_self ..)
    unfold Lib.indexByte
    rw [if_neg (by simpa using hx), index_no fun k => h (List.mem_cons_of_mem _ k)]
    rfl
theorem front_len {s : List UInt8} (h : (47 : UInt8) ∈ s) : (frontS s).length + 1 + (backS s).length = s.length := by
  have e := congrArg List.length (split_at_bar h)
  rw [List.length_append, List.length_cons] at e
  omega
theorem ext_front {s : ByteArray} (h : (47 : UInt8) ∈ s.data.toList) : s.extract 0 (frontS s.data.toList).length = ⟨(frontS s.data.toList).toArray⟩ := by
  apply ByteArray.ext
  apply Array.ext'
  rw [Lib.extract_data]
  have e := split_at_bar h
  simp only [List.drop_zero, Nat.sub_zero]
  generalize frontS s.data.toList = a at *
  generalize backS s.data.toList = b at *
  rw [e]; simp
theorem ext_back {s : ByteArray} : s.extract ((frontS s.data.toList).length + 1) s.size = ⟨(backS s.data.toList).toArray⟩ := by
  apply ByteArray.ext
  apply Array.ext'
  rw [Lib.extract_data]
  unfold backS
  rw [List.take_of_length_le]
  rw [List.length_drop, ← Lib.size_eq]
  omega

theorem cut_no (s : ByteArray) (h : (47 : UInt8) ∉ s.data.toList) (w : World) :
    Calls Tryz.prog 223 #[.string s, .string ⟨#[47]⟩] w fun e w' => e = .returned (.tuple #[.string s, .string ⟨#[]⟩, .bool false]) ∧ Below w.heap.size w w' := by
  have C := Tryz.stringslite_Index_one s 47 w
  rw [index_no h] at C
  clear h
  go_enter Tryz.func223, Tryz.ntmps223
  go_wp2_with fail
  refine C.mono ?_
  rintro e w' ⟨rfl, hw⟩
  have HW := Hd hw
  clear hw C
  go_wp2_with fail
  go_ret3
  exact ⟨rfl, by rw [HW.out]; exact Below.refl _ _⟩
theorem cut_at (s : ByteArray) (i : Nat) (hi : Lib.indexByte s.data.toList 47 = (i : Int)) (hl : i + 1 ≤ s.size) (hs : s.size ≤ 65536) (w : World) :
    Calls Tryz.prog 223 #[.string s, .string ⟨#[47]⟩] w fun e w' => e = .returned (.tuple #[.string (s.extract 0 i), .string (s.extract (i + 1) s.size), .bool true]) ∧ Below w.heap.size w w' := by
  have C := Tryz.stringslite_Index_one s 47 w
  rw [hi] at C
  have a1 : (0 : Int) ≤ (i : Int) := by omega
  have a2 : (i : Int) ≤ (s.size : Int) := by omega
  have a3 : (i : Int) + 1 ≤ (s.size : Int) := by omega
  have a4 : (0 : Int) ≤ (i : Int) + 1 := by omega
  have hw1 : IntKind.i64.wrap ((i : Int) + 1) = (i : Int) + 1 := by apply IntWalk.i64_in <;> omega
  have ht : ((i : Int) + 1).toNat = i + 1 := by omega
  clear hi
  go_enter Tryz.func223, Tryz.ntmps223
  go_wp2_with fail
  refine C.mono ?_
  rintro e w' ⟨rfl, hw⟩
  have HW := Hd hw
  clear hw C
  go_wp2_with fail
  go_region
  go_wp2_with fail
  go_ret3
  exact ⟨rfl, by rw [HW.out]; exact (Below.refl _ _).drew⟩
theorem strings_cut (s a b : ByteArray) (f : Bool) (w : World) (C : Calls Tryz.prog 223 #[.string s, .string ⟨#[47]⟩] w fun e w' => e = .returned (.tuple #[.string a, .string b, .bool f]) ∧ Below w.heap.size w w') :
    Calls Tryz.prog 185 #[.string s, .string ⟨#[47]⟩] w fun e w' => e = .returned (.tuple #[.string a, .string b, .bool f]) ∧ Below w.heap.size w w' := by
  go_enter Tryz.func185, Tryz.ntmps185
  go_wp2_with fail
  refine C.mono ?_
  rintro e w' ⟨rfl, hw⟩
  have HW := Hd hw
  clear hw C
  go_wp2_with fail
  go_ret3
  exact ⟨rfl, HW.out⟩
def cutB (s : List UInt8) : List UInt8 := if 47 ∈ s then backS s else []
theorem strings_Cut_bar (s : ByteArray) (hs : s.size ≤ 65536) (w : World) :
    Calls Tryz.prog 185 #[.string s, .string ⟨#[47]⟩] w fun e w' => e = .returned (.tuple #[.string ⟨(frontS s.data.toList).toArray⟩, .string ⟨(cutB s.data.toList).toArray⟩, .bool (decide (47 ∈ s.data.toList))]) ∧ Below w.heap.size w w' := by
  by_cases h : (47 : UInt8) ∈ s.data.toList
  · have hl := front_len h
    rw [← Lib.size_eq] at hl
    have C := strings_cut s _ _ _ w (cut_at s (frontS s.data.toList).length (index_front h) (by omega) hs w)
    rw [ext_front h, ext_back] at C
    unfold cutB
    rw [if_pos h, decide_eq_true h]
    exact C
  · have C := strings_cut s _ _ _ w (cut_no s h w)
    unfold cutB
    rw [if_neg h, decide_eq_false h, front_all h]
    exact C
/- How many limbs a number has of which the text is told; plain. -/

theorem dec_room (k v : Nat) (h : (Lib.decDigits v).length ≤ k) : v < 10 ^ k := by
  refine Decidable.byContradiction fun hn => ?_
  have e := dec_split k v (by omega)
  have e2 := congrArg List.length e
  rw [List.length_append, padN_length] at e2
  have h3 : (Lib.decDigits (v / 10 ^ k)).length ≠ 0 := fun h0 => dec_ne _ (List.eq_nil_of_length_eq_zero h0)
  omega
theorem lz_room (k : Nat) (x : Int) (h : (Lib.decDigits x.natAbs).length ≤ 9 * k) : lz x ≤ k := by
  unfold lz
  refine natL_length_le.2 (Nat.lt_of_lt_of_le (dec_room _ _ h) ?_)
  rw [Nat.pow_mul]
  exact Nat.pow_le_pow_left (by decide) _
theorem lz_read {s : List UInt8} {z : Int} (h : readZ s = some z) (hs : s.length ≤ 65536) : lz z ≤ 7282 := by
  refine lz_room 7282 z ?_
  have e := congrArg List.length (itoa_readZ h)
  unfold Lib.itoa at e
  split at e
  · rw [List.length_cons] at e; omega
  · rename_i hz
    rw [show z.toNat = z.natAbs by omega] at e
    omega
theorem front_le (s : List UInt8) : (frontS s).length ≤ s.length := (List.takeWhile_sublist _).length_le
theorem back_le (s : List UInt8) : (backS s).length ≤ s.length := by unfold backS; rw [List.length_drop]; omega
/- Bytes in front of a block; a row cut short. -/

theorem byteCells_get {zs : List UInt8} {k : Nat} (hk : k < zs.length) : (Lib.byteCells zs)[k]? = some (.int .u8 (zs[k].toNat : Int)) := by
  simp [Lib.byteCells, hk]
structure Front8 (w : World) (g cap : Nat) (zs : List UInt8) : Prop where
  ex : ∃ rest : List Value, zs.length + rest.length = cap ∧ Blk w g 5 (Lib.byteCells zs ++ rest).toArray
theorem Front8.lt {w : World} {g cap : Nat} {zs : List UInt8} (h : Front8 w g cap zs) : g < w.heap.size := by
  obtain ⟨rest, -, hb⟩ := h.ex
  exact hb.lt
theorem Front8.fits {w : World} {g cap : Nat} {zs : List UInt8} (h : Front8 w g cap zs) : zs.length ≤ cap := by
  obtain ⟨rest, he, -⟩ := h.ex
  omega
theorem Front8.cell {w : World} {g cap : Nat} {zs : List UInt8} (h : Front8 w g cap zs) {k : Nat} (hk : k < zs.length) : w.cell? ⟨g, k, none⟩ = some (.int .u8 (zs[k].toNat : Int)) := by
  obtain ⟨rest, -, hb⟩ := h.ex
  rw [hb.cell, List.getElem?_toArray, List.getElem?_append_left (by rw [Lib.byteCells_length]; exact hk), byteCells_get hk]
theorem Front8.frozen {w : World} {g cap : Nat} {zs : List UInt8} (h : Front8 w g cap zs) (k : Nat) : w.frozen? ⟨g, k, none⟩ = false := by
  obtain ⟨rest, -, hb⟩ := h.ex
  exact hb.frozen k
theorem Front8.set {w : World} {g cap : Nat} {zs : List UInt8} (h : Front8 w g cap zs) {k : Nat} (hk : k < zs.length) (d : UInt8) : Front8 (w.setCell ⟨g, k, none⟩ (.int .u8 (d.toNat : Int))) g cap (zs.set k d) := by
  obtain ⟨rest, he, hb⟩ := h.ex
  refine ⟨rest, by simpa using he, ?_⟩
  have e : (Lib.byteCells (zs.set k d) ++ rest).toArray = (Lib.byteCells zs ++ rest).toArray.setIfInBounds k (.int .u8 (d.toNat : Int)) := by
    rw [List.setIfInBounds_toArray, List.set_append_left _ _ (by rw [Lib.byteCells_length]; exact hk)]
    simp [Lib.byteCells, List.map_set]
  rw [e]
  exact hb.set_ k _
theorem Front8.of_own {w : World} {base n cap g : Nat} {zs : List UInt8} (h : w.ownsRow base 5 1 (.slice (some ⟨g, 0, none⟩) n cap) n (Lib.byteCells zs)) : Front8 w g cap zs ∧ zs.length = n := by
  have hl : zs.length = n := by have := h.1; rw [Lib.byteCells_length] at this; omega
  rcases h.2 with ⟨k1, k2⟩ | ⟨g', cap', cur, k1, k2, k3, k4, k5, k6, k7⟩
  · cases k1
  · injection k1 with a1 a2 a3
    injection a1 with a1
    injection a1 with a1
    subst a1 a3
    refine ⟨⟨cur.toList.drop n, ?_, ?_⟩, hl⟩
    · have : cur.toList.length = cap := by rw [Array.length_toList]; omega
      rw [List.length_drop]; omega
    · rw [Nat.mul_one] at k7
      rw [← k7, List.take_append_drop]
      exact k3
theorem row_cut {w : World} {base n cap g m : Nat} {t : TypeId} {xs : List Value} (h : w.ownsRow base t 1 (.slice (some ⟨g, 0, none⟩) n cap) n xs) (hm : m ≤ n) : w.ownsRow base t 1 (.slice (some ⟨g, 0, none⟩) m cap) m (xs.take m) := by
  refine ⟨by have := h.1; rw [List.length_take]; omega, ?_⟩
  rcases h.2 with ⟨k1, k2⟩ | ⟨g', cap', cur, k1, k2, k3, k4, k5, k6, k7⟩
  · cases k1
  · injection k1 with a1 a2 a3
    injection a1 with a1
    injection a1 with a1
    subst a1 a3
    refine .inr ⟨g, cap, cur, rfl, k2, k3, by omega, k5, k6, ?_⟩
    rw [← k7, List.take_take]
    congr 1
    omega
theorem own_block {w : World} {base n c : Nat} {t : TypeId} {A : Option Addr} {xs : List Value} (h : w.ownsRow base t 1 (.slice A n c) n xs) (h0 : n ≠ 0) : ∃ g, A = some ⟨g, 0, none⟩ ∧ base ≤ g ∧ n ≤ c ∧ c ≤ 9223372036854775807 := by
  rcases h.2 with ⟨k1, k2⟩ | ⟨g', cap', cur, k1, k2, k3, k4, k5, k6, k7⟩
  · exact absurd k2 h0
  · injection k1 with a1 a2 a3
    exact ⟨g', a1, k2, by omega, by simp only [maxLen] at k5; omega⟩
/- strings.Trim of the ten digits: is anything left? -/

def isDig (b : UInt8) : Bool := decide (48 ≤ b.toNat ∧ b.toNat ≤ 57)
def NonD (l : List UInt8) : Prop := ∃ b ∈ l, isDig b = false
theorem NonD.cons {l : List UInt8} {b : UInt8} (h : isDig b = true) : NonD (b :: l) ↔ NonD l := by
  unfold NonD
  constructor
  · rintro ⟨x, hx, hx2⟩
    rw [List.mem_cons] at hx
    rcases hx with rfl | hx
    · rw [h] at hx2; cases hx2
    · exact ⟨x, hx, hx2⟩
  · rintro ⟨x, hx, hx2⟩
    exact ⟨x, List.mem_cons_of_mem _ hx, hx2⟩
theorem decFrom_nonD : ∀ (l : List UInt8) (acc : Nat), Lib.decFrom acc l = none ↔ NonD l
  | [], acc => by simp [Lib.decFrom, NonD]
  | b :: l, acc => by
    cases h : isDig b with
    | true =>
      have h2 : 48 ≤ b.toNat ∧ b.toNat ≤ 57 := by unfold isDig at h; simpa using h
      rw [NonD.cons h, Lib.decFrom, digitVal_some h2.1 h2.2]
      exact decFrom_nonD l _
    | false =>
      have h2 : ¬ (48 ≤ b.toNat ∧ b.toNat ≤ 57) := by unfold isDig at h; simpa using h
      rw [Lib.decFrom, digitVal_none (by omega)]
      exact ⟨fun _ => ⟨b, List.mem_cons_self, h⟩, fun _ => rfl⟩
theorem digs_contains (x : UInt8) : ([48, 49, 50, 51, 52, 53, 54, 55, 56, 57] : List UInt8).contains x = isDig x := by
  rw [Bool.eq_iff_iff]
  unfold isDig
  simp [← UInt8.toNat_inj]
  omega
theorem dropWhile_nil {p : UInt8 → Bool} : ∀ (l : List UInt8), l.dropWhile p = [] ↔ ∀ b ∈ l, p b = true
  | [] => by simp
  | b :: l => by
    rw [List.dropWhile_cons]
    cases h : p b with
    | true => simp [h, dropWhile_nil l]
    | false => simp [h]
theorem nonD_not {l : List UInt8} : ¬ NonD l ↔ ∀ b ∈ l, isDig b = true := by
  unfold NonD
  constructor
  · intro h b hb
    cases hd : isDig b with
    | true => rfl
    | false => exact absurd ⟨b, hb, hd⟩ h
  · rintro h ⟨b, hb, hd⟩
    rw [h b hb] at hd; cases hd
theorem trimS_digits (l : List UInt8) : Lib.trimS l [48, 49, 50, 51, 52, 53, 54, 55, 56, 57] = [] ↔ ¬ NonD l := by
  have e : (fun x => ([48, 49, 50, 51, 52, 53, 54, 55, 56, 57] : List UInt8).contains x) = isDig := funext digs_contains
  unfold Lib.trimS Lib.trimLeftS Lib.trimRightS
  rw [e, dropWhile_nil, nonD_not]
  constructor
  · intro h
    have h1 : (l.reverse.dropWhile isDig) = [] := by
      cases h2 : l.reverse.dropWhile isDig with
      | nil => rfl
      | cons x r =>
        exfalso
        have h3 := List.head?_dropWhile_not isDig l.reverse
        rw [h2] at h3
        simp at h3
        have := h x (by rw [h2]; simp)
        rw [h3] at this; cases this
    intro b hb
    exact (dropWhile_nil _).1 h1 b (by simpa using hb)
  · intro h b hb
    have h1 : l.reverse.dropWhile isDig = [] := (dropWhile_nil _).2 (fun b hb => h b (by simpa using hb))
    rw [h1] at hb
    cases hb
def Trimmed (s : ByteArray) (w : World) (e : Ending) (w' : World) : Prop := ∃ t : ByteArray, e = .returned (.string t) ∧ (t.data.toList = [] ↔ ¬ NonD s.data.toList) ∧ Below w.heap.size w w'
theorem strings_Trim_digits (s : ByteArray) (hs : s.size ≤ 65536) (w : World) :
    Calls Tryz.prog 225 #[.string s, .string ⟨#[48, 49, 50, 51, 52, 53, 54, 55, 56, 57]⟩] w (Trimmed s w) :=
  (Any.strings_Trim_ascii Tryz.lays160 (fun _ => by kernel_rfl) (by kernel_rfl) s ⟨#[48, 49, 50, 51, 52, 53, 54, 55, 56, 57]⟩ w (by omega) (by decide) (by
    intro j b hb
    have hm : b ∈ ([48, 49, 50, 51, 52, 53, 54, 55, 56, 57] : List UInt8) := List.mem_of_getElem? hb
    have h2 := digs_contains b
    rw [List.contains_iff_mem.2 hm] at h2
    have h3 : 48 ≤ b.toNat ∧ b.toNat ≤ 57 := by unfold isDig at h2; simpa using h2.symm
    omega)).mono fun _ _ ⟨h1, h2⟩ => ⟨_, h1, trimS_digits _, h2⟩
end Go.Proofs.YtipmkkobdbgphaaGreatDoor
