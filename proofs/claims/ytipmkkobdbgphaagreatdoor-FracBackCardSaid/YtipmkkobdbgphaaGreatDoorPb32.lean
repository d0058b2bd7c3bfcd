/- Several texts in one: Bytes, TrimDigits, RefRead, ExRead. -/
import Derived.Test.YtipmkkobdbgphaaGreatDoorPb05
import Derived.Lib.UnsafeStr
import Derived.Test.YtipmkkobdbgphaaGreatDoorPb31
import Derived.Test.YtipmkkobdbgphaaGreatDoorPb30
import Derived.Shelf.Strings.SlTrimAscii
import Derived.Test.YtipmkkobdbgphaaGreatDoorPb11
import Derived.Deep.Cut
import Derived.Deep.DeepCutAuto
import Derived.Test.YtipmkkobdbgphaaGreatDoorPbHd
import Derived.Lib.AtoiErrMem
set_option maxRecDepth 100000
set_option maxHeartbeats 8000000
/- Bytes in front of a block; a row cut short. -/
namespace Go.Proofs.YtipmkkobdbgphaaGreatDoor
open Go.RowKit

theorem byteCells_get {zs : List UInt8} {k : Nat} (hk : k < zs.length) : (Lib.byteCells zs)[k]? = some (.int .u8 (zs[k].toNat : Int)) := by
  simp [Lib.byteCells, hk]
structure Front8 (w : World) (g cap : Nat) (zs : List UInt8) : Prop where
  ex : ∃ rest : List Value, zs.length + rest.length = cap ∧ Blk w g 5 (Lib.byteCells zs ++ rest).toArray
theorem Front8.lt {w : World} {g cap : Nat} {zs : List UInt8} (h : Front8 w g cap zs) : g < w.heap.size := by
  obtain ⟨rest, -, hb⟩ := h.ex
  exact hb.lt
theorem Front8.fits {w : World} {g cap : Nat} {zs : List UInt8} (h : Front8 w g cap zs) : zs.length ≤ cap := by
  obtain ⟨rest, he, -⟩ := h.ex
  omega
theorem Front8.cell {w : World} {g cap : Nat} {zs : List UInt8} (h : Front8 w g cap zs) {k : Nat} (hk : k < zs.length) : w.cell? ⟨g, k, none⟩ = some (.int .u8 (zs[k].toNat : Int)) := by
  obtain ⟨rest, -, hb⟩ := h.ex
  rw [hb.cell, List.getElem?_toArray, List.getElem?_append_left (by rw [Lib.byteCells_length]; exact hk), byteCells_get hk]
theorem Front8.frozen {w : World} {g cap : Nat} {zs : List UInt8} (h : Front8 w g cap zs) (k : Nat) : w.frozen? ⟨g, k, none⟩ = false := by
  obtain ⟨rest, -, hb⟩ := h.ex
  exact hb.frozen k
theorem Front8.set {w : World} {g cap : Nat} {zs : List UInt8} (h : Front8 w g cap zs) {k : Nat} (hk : k < zs.length) (d : UInt8) : Front8 (w.setCell ⟨g, k, none⟩ (.int .u8 (d.toNat : Int))) g cap (zs.set k d) := by
  obtain ⟨rest, he, hb⟩ := h.ex
  refine ⟨rest, by simpa using he, ?_⟩
  have e : (Lib.byteCells (zs.set k d) ++ rest).toArray = (Lib.byteCells zs ++ rest).toArray.setIfInBounds k (.int .u8 (d.toNat : Int)) := by
    rw [List.setIfInBounds_toArray, List.set_append_left _ _ (by rw [Lib.byteCells_length]; exact hk)]
    simp [Lib.byteCells, List.map_set]
  rw [e]
  exact hb.set_ k _
theorem Front8.of_own {w : World} {base n cap g : Nat} {zs : List UInt8} (h : w.ownsRow base 5 1 (.slice (some ⟨g, 0, none⟩) n cap) n (Lib.byteCells zs)) : Front8 w g cap zs ∧ zs.length = n := by
  have hl : zs.length = n := by have := h.1; rw [Lib.byteCells_length] at this; omega
  rcases h.2 with ⟨k1, k2⟩ | ⟨g', cap', cur, k1, k2, k3, k4, k5, k6, k7⟩
  · cases k1
  · injection k1 with a1 a2 a3
    injection a1 with a1
    injection a1 with a1
    subst a1 a3
    refine ⟨⟨cur.toList.drop n, ?_, ?_⟩, hl⟩
    · have : cur.toList.length = cap := by rw [Array.length_toList]; omega
      rw [List.length_drop]; omega
    · rw [Nat.mul_one] at k7
      rw [← k7, List.take_append_drop]
      exact k3
theorem row_cut {w : World} {base n cap g m : Nat} {t : TypeId} {xs : List Value} (h : w.ownsRow base t 1 (.slice (some ⟨g, 0, none⟩) n cap) n xs) (hm : m ≤ n) : w.ownsRow base t 1 (.slice (some ⟨g, 0, none⟩) m cap) m (xs.take m) := by
  refine ⟨by have := h.1; rw [List.length_take]; omega, ?_⟩
  rcases h.2 with ⟨k1, k2⟩ | ⟨g', cap', cur, k1, k2, k3, k4, k5, k6, k7⟩
  · cases k1
  · injection k1 with a1 a2 a3
    injection a1 with a1
    injection a1 with a1
    subst a1 a3
    refine .inr ⟨g, cap, cur, rfl, k2, k3, by omega, k5, k6, ?_⟩
    rw [← k7, List.take_take]
    congr 1
    omega
theorem own_block {w : World} {base n c : Nat} {t : TypeId} {A : Option Addr} {xs : List Value} (h : w.ownsRow base t 1 (.slice A n c) n xs) (h0 : n ≠ 0) : ∃ g, A = some ⟨g, 0, none⟩ ∧ base ≤ g ∧ n ≤ c ∧ c ≤ 9223372036854775807 := by
  rcases h.2 with ⟨k1, k2⟩ | ⟨g', cap', cur, k1, k2, k3, k4, k5, k6, k7⟩
  · exact absurd k2 h0
  · injection k1 with a1 a2 a3
    exact ⟨g', a1, k2, by omega, by simp only [maxLen] at k5; omega⟩
/- strings.Trim of the ten digits: is anything left? -/

def isDig (b : UInt8) : Bool := decide (48 ≤ b.toNat ∧ b.toNat ≤ 57)
def NonD (l : List UInt8) : Prop := ∃ b ∈ l, isDig b = false
theorem NonD.cons {l : List UInt8} {b : UInt8} (h : isDig b = true) : NonD (b :: l) ↔ NonD l := by
  unfold NonD
  constructor
  · rintro ⟨x, hx, hx2⟩
    rw [List.mem_cons] at hx
    rcases hx with rfl | hx
    · rw [h] at hx2; cases hx2
    · exact ⟨x, hx, hx2⟩
  · rintro ⟨x, hx, hx2⟩
    exact ⟨x, List.mem_cons_of_mem _ hx, hx2⟩
theorem decFrom_nonD : ∀ (l : List UInt8) (acc : Nat), Lib.decFrom acc l = none ↔ NonD l
  | [], acc => by simp [Lib.decFrom, NonD]
  | b :: l, acc => by
    cases h : isDig b with
    | true =>
      have h2 : 48 ≤ b.toNat ∧ b.toNat ≤ 57 := by unfold isDig at h; simpa using h
      rw [NonD.cons h, Lib.decFrom, digitVal_some h2.1 h2.2]
      exact decFrom_nonD l _
    | false =>
      have h2 : ¬ (48 ≤ b.toNat ∧ b.toNat ≤ 57) := by unfold isDig at h; simpa using h
      rw [Lib.decFrom, digitVal_none (by omega)]
      exact ⟨fun _ => ⟨b, List.mem_cons_self, h⟩, fun _ => rfl⟩
theorem digs_contains (x : UInt8) : ([48, 49, 50, 51, 52, 53, 54, 55, 56, 57] : List UInt8).contains x = isDig x := by
  rw [Bool.eq_iff_iff]
  unfold isDig
  simp [← UInt8.toNat_inj]
  omega
theorem dropWhile_nil {p : UInt8 → Bool} : ∀ (l : List UInt8), l.dropWhile p = [] ↔ ∀ b ∈ l, p b = true
  | [] => by simp
  | b :: l => by
    rw [List.dropWhile_cons]
    cases h : p b with
    | true => simp [h, dropWhile_nil l]
    | false => simp [h]
theorem nonD_not {l : List UInt8} : ¬ NonD l ↔ ∀ b ∈ l, isDig b = true := by
  unfold NonD
  constructor
  · intro h b hb
    cases hd : isDig b with
    | true => rfl
    | false => exact absurd ⟨b, hb, hd⟩ h
  · rintro h ⟨b, hb, hd⟩
    rw [h b hb] at hd; cases hd
theorem trimS_digits (l : List UInt8) : Lib.trimS l [48, 49, 50, 51, 52, 53, 54, 55, 56, 57] = [] ↔ ¬ NonD l := by
  have e : (fun x => ([48, 49, 50, 51, 52, 53, 54, 55, 56, 57] : List UInt8).contains x) = isDig := funext digs_contains
  unfold Lib.trimS Lib.trimLeftS Lib.trimRightS
  rw [e, dropWhile_nil, nonD_not]
  constructor
  · intro h
    have h1 : (l.reverse.dropWhile isDig) = [] := by
      cases h2 : l.reverse.dropWhile isDig with
      | nil => rfl
      | cons x r =>
        exfalso
        have h3 := List.head?_dropWhile_not isDig l.reverse
        rw [h2] at h3
        simp at h3
        have := h x (by rw [h2]; simp)
        rw [h3] at this; cases this
    intro b hb
    exact (dropWhile_nil _).1 h1 b (by simpa using hb)
  · intro h b hb
    have h1 : l.reverse.dropWhile isDig = [] := (dropWhile_nil _).2 (fun b hb => h b (by simpa using hb))
    rw [h1] at hb
    cases hb
def Trimmed (s : ByteArray) (w : World) (e : Ending) (w' : World) : Prop := ∃ t : ByteArray, e = .returned (.string t) ∧ (t.data.toList = [] ↔ ¬ NonD s.data.toList) ∧ Below w.heap.size w w'
theorem strings_Trim_digits (s : ByteArray) (hs : s.size ≤ 65536) (w : World) :
    Calls Tryz.prog 225 #[.string s, .string ⟨#[48, 49, 50, 51, 52, 53, 54, 55, 56, 57]⟩] w (Trimmed s w) :=
  (Any.strings_Trim_ascii Tryz.lays160 (fun _ => by kernel_rfl) (by kernel_rfl) s ⟨#[48, 49, 50, 51, 52, 53, 54, 55, 56, 57]⟩ w (by omega) (by decide) (by
    intro j b hb
    have hm : b ∈ ([48, 49, 50, 51, 52, 53, 54, 55, 56, 57] : List UInt8) := List.mem_of_getElem? hb
    have h2 := digs_contains b
    rw [List.contains_iff_mem.2 hm] at h2
    have h3 : 48 ≤ b.toNat ∧ b.toNat ≤ 57 := by unfold isDig at h2; simpa using h2.symm
    omega)).mono fun _ _ ⟨h1, h2⟩ => ⟨_, h1, trimS_digits _, h2⟩
/- Read of the references: the number of a text. -/

theorem OwnL.toN {w : World} {base n L : Nat} {v : Value} (h : OwnL w base v n L) : ∃ A c zs, v = .slice A zs.length c ∧ Limbs zs ∧ val zs = n ∧ zs.length ≤ L ∧ zs.length ≤ c ∧ c ≤ 9223372036854775807 ∧ ReadsU w w.heap.size A zs ∧ OwnN w base (.slice A (natL n).length c) n := by
  obtain ⟨A, c, zs, h1, h2, h3, h4, h5, h6, h7⟩ := h.form
  have hl : (natL n).length ≤ zs.length := by
    have := natL_take h2
    have h8 := congrArg List.length this
    rw [h3, List.length_take] at h8
    omega
  refine ⟨A, c, zs, h1, h2, h3, h4, h5, h6, Reads.of_own h7, A, c, rfl, by omega, h6, ?_⟩
  have ht := natL_take h2
  rw [h3] at ht
  by_cases h0 : zs.length = 0
  · have hz := List.eq_nil_of_length_eq_zero h0
    subst hz
    have e0 : (natL n).length = 0 := by simpa using hl
    have e1 := List.eq_nil_of_length_eq_zero e0
    rw [e1]
    exact h7
  · obtain ⟨g, rfl, -, -, -⟩ := own_block h7 h0
    have := row_cut h7 hl
    rw [← cellsU_take, ← ht] at this
    exact this
structure Split (s D : ByteArray) (neg : Bool) : Prop where
  neg : negOf s.data.toList = neg
  tail : tailOf s.data.toList = D.data.toList
def RetRead (base : Nat) (w : World) (o : Option Int) (e : Ending) (w' : World) : Prop := ∃ v, e = .returned (.tuple #[v, .bool o.isSome]) ∧ IntOwn w' base v (o.getD 0) ∧ Below w.heap.size w w'

/- Read of package exact: the number of a text. -/

theorem row_set {w : World} {base n cap g i : Nat} {t : TypeId} {xs : List Value} (h : w.ownsRow base t 1 (.slice (some ⟨g, 0, none⟩) n cap) n xs) (u : Value) :
    (w.setCell ⟨g, i, none⟩ u).ownsRow base t 1 (.slice (some ⟨g, 0, none⟩) n cap) n (xs.set i u) := by
  refine ⟨by rw [List.length_set]; exact h.1, ?_⟩
  rcases h.2 with ⟨k1, k2⟩ | ⟨g', cap', cur, k1, k2, k3, k4, k5, k6, k7⟩
  · cases k1
  · injection k1 with a1 a2 a3
    injection a1 with a1
    injection a1 with a1
    subst a1 a3
    refine .inr ⟨g, cap, cur.setIfInBounds i u, rfl, k2, Blk.set_ (show Blk w g t cur from k3) i u, k4, k5, by simpa using k6, ?_⟩
    rw [Array.toList_setIfInBounds, ← k7, List.take_set]
theorem own_frozen {w : World} {base n cap g : Nat} {t : TypeId} {xs : List Value} (h : w.ownsRow base t 1 (.slice (some ⟨g, 0, none⟩) n cap) n xs) (i : Nat) : w.frozen? ⟨g, i, none⟩ = false := by
  rcases h.2 with ⟨k1, k2⟩ | ⟨g', cap', cur, k1, k2, k3, k4, k5, k6, k7⟩
  · cases k1
  · injection k1 with a1 a2 a3
    injection a1 with a1
    injection a1 with a1
    subst a1 a3
    exact Blk.frozen (show Blk w g t cur from k3) i
theorem own_cell {w : World} {base n cap g i : Nat} {zs : List Nat} (h : w.ownsRow base 104 1 (.slice (some ⟨g, 0, none⟩) n cap) n (cellsU zs)) (hi : i < zs.length) : w.cell? ⟨g, i, none⟩ = some (.int .u32 zs[i]) := by
  have := h.cells (g := g) rfl i _ (cellsU_get hi)
  rw [show (⟨g, 0, none⟩ : Addr).add i = ⟨g, i, none⟩ by unfold Addr.add; split <;> simp_all] at this
  exact this
theorem atoi_digits {l : List UInt8} {p : Nat} (h : Lib.decFrom 0 l = some p) (h0 : l ≠ []) : Lib.atoi l = some (p : Int) := by
  cases l with
  | nil => exact absurd rfl h0
  | cons b r =>
    have hd : 48 ≤ b.toNat ∧ b.toNat ≤ 57 := by
      refine Decidable.byContradiction fun hn => ?_
      rw [decFrom_none (i := 0) (b := b) rfl (digitVal_none (by omega))] at h
      cases h
    have h1 : (b == 45) = false := by
      rw [beq_eq_false_iff_ne]
      intro e
      rw [e] at hd
      exact absurd hd.1 (by decide)
    have h2 : (b == 43) = false := by
      rw [beq_eq_false_iff_ne]
      intro e
      rw [e] at hd
      exact absurd hd.1 (by decide)
    show (if (b == 45) = true then _ else if (b == 43) = true then _ else _) = _
    rw [if_neg (by rw [h1]; decide), if_neg (by rw [h2]; decide)]
    show Option.map _ (if false = true then none else Lib.decFrom 0 (b :: r)) = _
    rw [if_neg (by decide), h]
    rfl
theorem split_cut (s : ByteArray) : Split s ⟨(Lib.trimPrefix s.data.toList [45]).toArray⟩ (Lib.hasPrefix s.data.toList [45]) := by
  have h : Lib.hasPrefix s.data.toList [45] = negOf s.data.toList := by
    unfold Lib.hasPrefix negOf
    cases s.data.toList with
    | nil => rfl
    | cons b l =>
      by_cases hb : b = 45
      · subst hb; simp
      · have e1 : ((45 : UInt8) == b) = false := beq_eq_false_iff_ne.2 (fun e => hb e.symm)
        have e2 : ((some b : Option UInt8) == some 45) = false := by simp [hb]
        show ((45 : UInt8) == b && List.isPrefixOf [] l) = ((some b : Option UInt8) == some 45)
        rw [e1, e2]; rfl
  refine ⟨h.symm, ?_⟩
  unfold tailOf Lib.trimPrefix
  rw [h]
  cases negOf s.data.toList <;> simp
theorem nine_core {vP vt b B M part cc x r q : Nat} (h : vP + b * cc = vt * M + part) (e : r + B * q = cc + x * M) : vP + b * r + b * B * q = (vt + b * x) * M + part := by
  have h2 : b * r + b * B * q = b * cc + b * x * M := by rw [Nat.mul_assoc b B q, ← Nat.mul_add, e, Nat.mul_add, Nat.mul_assoc]
  rw [Nat.add_mul]
  omega
theorem nine_step {P xs : List Nat} {i cc part x : Nat} (hi : i < xs.length) (hx : xs[i] = x) (hP : P.length = i) (h : val P + 4294967296 ^ i * cc = val (xs.take i) * 1000000000 + part) :
    val (P ++ [(cc + x * 1000000000) % 4294967296]) + 4294967296 ^ (i + 1) * ((cc + x * 1000000000) / 4294967296) = val (xs.take (i + 1)) * 1000000000 + part := by
  rw [val_append, hP, val_take_more hi, hx, Nat.pow_succ, show ∀ r, val [r] = r from fun r => by simp [val]]
  exact nine_core h (Nat.mod_add_div _ _)
def strLen : Value → Nat
  | .string t => t.size
  | _ => 0
theorem cells_next {P xs : List Nat} {i d : Nat} (hP : P.length = i) (hi : i < xs.length) : (cellsU (P ++ xs.drop i)).set i (.int .u32 (d : Int)) = cellsU ((P ++ [d]) ++ xs.drop (i + 1)) := by
  subst hP
  have e : (P ++ xs.drop P.length).set P.length d = (P ++ [d]) ++ xs.drop (P.length + 1) := by
    rw [List.drop_eq_getElem_cons hi, List.set_append_right _ _ (Nat.le_refl _), Nat.sub_self, List.set_cons_zero, List.append_assoc]
    rfl
  rw [← e]
  unfold cellsU
  rw [List.map_set]
theorem at_next {P xs : List Nat} {i : Nat} (hP : P.length = i) (hi : i < xs.length) (h : i < (P ++ xs.drop i).length) : (P ++ xs.drop i)[i] = xs[i] := by
  rw [List.getElem_append_right (by omega)]
  simp [hP]
theorem str_more {t : ByteArray} (h : t.data.toList ≠ []) : t.toList.isEmpty = false := by
  rw [ByteArray.toList_eq]
  cases hl : t.data.toList with
  | nil => exact absurd hl h
  | cons _ _ => rfl
theorem str_more2 {t : ByteArray} (h : t.toList.isEmpty = false) : ¬ t.toList = [] := fun e => by rw [e] at h; cases h
theorem nine_size {a b k L : Nat} (h : a + 1 ≤ b) (hb : b ≤ 65536) (hk : k ≤ L + 1) (hL : L ≤ 65536 - b) : a ≤ 65536 ∧ k ≤ 65536 - a ∧ a < b := by omega
theorem natL_short {zs : List Nat} {n : Nat} (h : Limbs zs) (e : val zs = n) : (natL n).length ≤ zs.length := by
  subst e
  have h1 := congrArg List.length (natL_take h)
  rw [List.length_take] at h1
  omega
theorem nine_end {w4 : World} {base L cc n c5 : Nat} {A5 : Option Addr} {P : List Nat} (hP : P.length = L) (hPl : Limbs P) (hcc : cc < 1000000000) (hv : val P + 4294967296 ^ L * cc = n) (ho : w4.ownsRow base 104 1 (.slice A5 (L + 1) c5) (L + 1) (cellsU P ++ [.int .u32 (cc : Int)])) :
    (Calls Tryz.prog 217 #[.slice A5 (L + 1) c5] w4 fun e w' => e = .returned (.slice A5 (natL n).length c5) ∧ w4 = w') ∧ OwnN w4 base (.slice A5 (natL n).length c5) n ∧ (natL n).length ≤ L + 1 := by
  have hown5 : w4.ownsRow base 104 1 (.slice A5 (L + 1) c5) (L + 1) (cellsU (P ++ [cc])) := by
    have e : cellsU (P ++ [cc]) = cellsU P ++ [.int .u32 (cc : Int)] := by simp [cellsU]
    rw [e]; exact ho
  have hl5 : (P ++ [cc]).length = L + 1 := by rw [List.length_append, hP]; rfl
  have hlim : Limbs (P ++ [cc]) := fun y hy => by
    rw [List.mem_append, List.mem_singleton] at hy
    rcases hy with hy | rfl
    · exact hPl y hy
    · omega
  have hval5 : val (P ++ [cc]) = n := by
    rw [val_append, hP, ← hv, show ∀ r, val [r] = r from fun r => by simp [val]]
  obtain ⟨g5, -, -, k1, k2⟩ := own_block hown5 (Nat.succ_ne_zero _)
  have hn5 := natL_short hlim hval5
  rw [hl5] at hn5
  generalize P ++ [cc] = zs at hown5 hl5 hlim hval5
  clear ho hv
  have C4 := exact_trim A5 c5 zs hlim (by rw [hl5]; exact k1) k2 w4.heap.size w4 (by rw [← hl5] at hown5; exact Reads.of_own hown5)
  rw [hval5, hl5] at C4
  have hL : OwnL w4 base (.slice A5 (L + 1) c5) n (L + 1) := ⟨A5, c5, zs, by rw [hl5], hlim, hval5, by rw [hl5]; exact Nat.le_refl _, by rw [hl5]; exact k1, k2, by rw [hl5]; exact hown5⟩
  obtain ⟨A', c', zs', z0, -, -, -, -, -, -, z7⟩ := hL.toN
  injection z0 with y1 y2 y3
  subst y1 y3
  exact ⟨C4, z7, hn5⟩
structure Nine (w0 wl : World) (base : Nat) (AL : Option Addr) (cL : Nat) (xs : List Nat) (part i cc : Nat) : Prop where
  ex : ∃ P : List Nat, P.length = i ∧ Limbs P ∧ wl.ownsRow base 104 1 (.slice AL xs.length cL) xs.length (cellsU (P ++ xs.drop i)) ∧ val P + 4294967296 ^ i * cc = val (xs.take i) * 1000000000 + part
  low : Below w0.heap.size w0 wl
structure Got (W wl : World) (base : Nat) (D d : List UInt8) (AL : Option Addr) (cL v : Nat) : Prop where
  ex : ∃ pre, D = pre ++ d ∧ Lib.decFrom 0 pre = some v
  nine : v = 0 ∨ d.length % 9 = 0
  own : OwnN wl base (.slice AL (natL v).length cL) v
  low : Below W.heap.size W wl

theorem exact_Read (s : ByteArray) (hs : s.size ≤ 65536) (w : World) :
    Calls Tryz.prog 186 #[.string s] w (RetRead w.heap.size w (readZ s.data.toList)) := by
  obtain ⟨i0, hi, hz0, hz1, hz2⟩ := info_parts limbInfo
  have pr := Pair.new w 25 (.bool false) (.slice none 0 0)
  have b0 := (Below.refl w.heap.size w).alloc (Nat.le_refl _) (.cells #[.bool false, .slice none 0 0] 25)
  obtain ⟨zz, hzz⟩ : ∃ z, z = readZ s.data.toList := ⟨_, rfl⟩
  rw [← hzz]
  have HSP := split_cut s
  have hDs : (⟨(Lib.trimPrefix s.data.toList [45]).toArray⟩ : ByteArray).size ≤ 65536 := by
    have h1 : (Lib.trimPrefix s.data.toList [45]).length ≤ s.data.toList.length := by
      unfold Lib.trimPrefix
      split
      · simp
      · exact Nat.le_refl _
    rw [Lib.size_eq]
    rw [Lib.size_eq] at hs
    simpa using Nat.le_trans h1 hs
  have HZZ := Hd hzz
  have PR := Hd pr
  have HB := Hd b0
  have HC := Hd (fun V => Tryz.strings_CutPrefix s ⟨#[45]⟩ V)
  have HSPL := Hd HSP
  have HDS := Hd hDs
  clear hzz pr b0 HSP hDs hs
  go_enter Tryz.func186, Tryz.ntmps186
  go_wp2_with fail
  refine (HC.out _).mono ?_
  rintro e W ⟨rfl, hw⟩
  rw [← hw] at PR HB
  clear hw HC
  change Hid (Split s ⟨(Lib.trimPrefix s.data.toList [45]).toArray⟩ (Lib.hasPrefix s.data.toList [45])) at HSPL
  generalize (⟨(Lib.trimPrefix s.data.toList [45]).toArray⟩ : ByteArray) = D at HSPL HDS ⊢
  generalize Lib.hasPrefix s.data.toList [45] = neg at HSPL ⊢
  have HZ2 := Hd (show zz = (readN D.data.toList neg).map fun n => if neg then -(n : Int) else n by rw [HZZ.out]; unfold readZ; rw [HSPL.out.neg, HSPL.out.tail])
  obtain ⟨r, hr⟩ : ∃ r, r = (readN D.data.toList neg).isNone := ⟨_, rfl⟩
  have HR := Hd hr
  clear HZZ HSPL hr
  go_upto_region 2 with fail
  go_cut [36] (fun s36 wc => s36 = .bool r ∧ Below W.heap.size W wc)
  case first =>
    by_cases h0 : D.size = 0
    · have hnil : D.data.toList = [] := List.eq_nil_of_length_eq_zero (by rw [← Lib.size_eq]; exact h0)
      have HN := Hd (show r = true by rw [HR.out, hnil]; rfl)
      have g2 : D.toList = [] := by rw [ByteArray.toList_eq]; exact hnil
      have g1 : D.toList.isEmpty = true := by rw [g2]; rfl
      clear hnil h0
      go_wp2_with fail
      go_meet
      case rel => exact ⟨by rw [HN.out], Below.refl _ _⟩
    · have h1 : 0 < D.size := by omega
      have hb := byte_at D 0 h1
      have hne : D.data.toList ≠ [] := fun e => by rw [e] at hb; cases hb
      have hbad : badD D.data.toList neg = ((D[0]'h1 == 48) && (decide (1 < D.size) || neg)) := by
        unfold badD
        have hne2 : D.data.toList.isEmpty = false := by
          cases hD : D.data.toList with
          | nil => exact absurd hD hne
          | cons _ _ => rfl
        rw [hne2, List.head?_eq_getElem?, hb, ← Lib.size_eq, Bool.false_or]
        rfl
      have g1 : D.toList.isEmpty = false := str_more hne
      have g2 : ¬ D.toList = [] := str_more2 g1
      have a0 : (0 : Int) < (D.size : Int) := by omega
      clear hb hne
      by_cases h48 : D[0]'h1 = 48
      · rw [h48] at hbad
        have a1 : (D[0]'h1).toNat = 48 := by rw [h48]; rfl
        clear h48
        by_cases h2 : 1 < D.size
        · have HN := Hd (show r = true by rw [HR.out]; unfold readN; rw [hbad]; simp [h2])
          have a3 : (1 : Int) < (D.size : Int) := by omega
          clear hbad
          go_wp2_with fail
          go_meet
          case rel => exact ⟨by rw [HN.out], Below.refl _ _⟩
        · have a3 : ¬ (1 : Int) < (D.size : Int) := by omega
          rcases Bool.eq_false_or_eq_true neg with hg | hg
          · subst hg
            have HN := Hd (show r = true by rw [HR.out]; unfold readN; rw [hbad]; simp)
            clear hbad
            go_wp2_with fail
            go_meet
            case rel => exact ⟨by rw [HN.out], Below.refl _ _⟩
          · subst hg
            have hbad : badD D.data.toList false = false := by rw [hbad]; simp [h2]
            have HT := Hd (strings_Trim_digits D HDS.out W)
            have HBAD := Hd hbad
            clear hbad
            go_wp2_with fail
            refine HT.out.mono ?_
            rintro e w2 ⟨t, rfl, ht, hb⟩
            have HTT := Hd ht
            have HB2 := Hd hb
            clear ht hb HT
            by_cases hn : NonD D.data.toList
            · have HN := Hd (show r = true by rw [HR.out]; unfold readN; rw [HBAD.out, (decFrom_nonD _ _).2 hn]; rfl)
              have g1 : t.toList.isEmpty = false := str_more (fun e => HTT.out.1 e hn)
              have g2 : ¬ t.toList = [] := str_more2 g1
              clear hn
              go_wp2_with fail
              go_meet
              case rel => exact ⟨by rw [HN.out], HB2.out⟩
            · have HN := Hd (show r = false by
                rw [HR.out]; unfold readN; rw [HBAD.out]
                cases h : Lib.decFrom 0 D.data.toList with
                | none => exact absurd ((decFrom_nonD _ _).1 h) hn
                | some v => simp)
              have g2 : t.toList = [] := by rw [ByteArray.toList_eq]; exact HTT.out.2 hn
              have g1 : t.toList.isEmpty = true := by rw [g2]; rfl
              clear hn
              go_wp2_with fail
              go_meet
              case rel => exact ⟨by rw [HN.out], HB2.out⟩
      · have hbad : badD D.data.toList neg = false := by rw [hbad]; simp [h48]
        have a1 : (((D[0]'h1).toNat : Int) == 48) = false := by
          have : (D[0]'h1).toNat ≠ 48 := fun e => h48 (UInt8.toNat_inj.1 e)
          exact beq_eq_false_iff_ne.2 (by omega)
        clear h48
        have HT := Hd (strings_Trim_digits D HDS.out W)
        have HBAD := Hd hbad
        clear hbad
        go_wp2_with fail
        refine HT.out.mono ?_
        rintro e w2 ⟨t, rfl, ht, hb⟩
        have HTT := Hd ht
        have HB2 := Hd hb
        clear ht hb HT
        by_cases hn : NonD D.data.toList
        · have HN := Hd (show r = true by rw [HR.out]; unfold readN; rw [HBAD.out, (decFrom_nonD _ _).2 hn]; rfl)
          have g1 : t.toList.isEmpty = false := str_more (fun e => HTT.out.1 e hn)
          have g2 : ¬ t.toList = [] := str_more2 g1
          clear hn
          go_wp2_with fail
          go_meet
          case rel => exact ⟨by rw [HN.out], HB2.out⟩
        · have HN := Hd (show r = false by
            rw [HR.out]; unfold readN; rw [HBAD.out]
            cases h : Lib.decFrom 0 D.data.toList with
            | none => exact absurd ((decFrom_nonD _ _).1 h) hn
            | some v => simp)
          have g2 : t.toList = [] := by rw [ByteArray.toList_eq]; exact HTT.out.2 hn
          have g1 : t.toList.isEmpty = true := by rw [g2]; rfl
          clear hn
          go_wp2_with fail
          go_meet
          case rel => exact ⟨by rw [HN.out], HB2.out⟩
  case rest =>
    obtain ⟨h36, hbw⟩ := hcut
    subst h36
    have PRW := Hd (PR.out.below hbw)
    have HBW := Hd (belowTo HB.out hbw)
    clear hbw PR HB
    cases r with
    | true =>
      have HZN := Hd (show zz = none by
        rw [HZ2.out]
        cases h : readN D.data.toList neg with
        | none => rfl
        | some v => have := HR.out; rw [h] at this; cases this)
      clear HZ2 HR
      have HFB := Hd (below2 HBW.out (Nat.le_refl _) (.bool false) (.slice none 0 0))
      have HQ := Hd (PRW.out.store (.bool false) (.slice none 0 0))
      obtain ⟨l_r, r0, r1, f0, f1⟩ := PRW.out.facts
      go_wp2_with fail
      obtain ⟨_, k0, k1, _, _⟩ := HQ.out.facts
      exact bodyPost_ret (v := .tuple #[.agg #[.bool false, .slice none 0 0], .bool false]) (by simp [results, Tryz.results186, go_sem, k0, k1]) rfl ⟨_, by rw [HZN.out]; rfl, by rw [HZN.out]; exact IntOwn.nought _ _, HFB.out⟩
    | false =>
      have HV := Hd (show ∃ v, Lib.decFrom 0 D.data.toList = some v ∧ zz = some (if neg then -(v : Int) else v) by
        have h := HR.out
        have hz := HZ2.out
        unfold readN at h hz
        cases hb : badD D.data.toList neg with
        | true => rw [hb] at h; cases h
        | false =>
          rw [hb, if_neg Bool.false_ne_true] at h hz
          cases hd : Lib.decFrom 0 D.data.toList with
          | none => rw [hd] at h; cases h
          | some v => rw [hd] at hz; exact ⟨v, rfl, hz⟩)
      have HDIG := Hd (show ∀ b ∈ D.data.toList, isDig b = true from nonD_not.1 (fun hn => by
        obtain ⟨v, hv, -⟩ := HV.out
        rw [(decFrom_nonD _ _).2 hn] at hv; cases hv))
      have HW := Hd (show w.heap.size + 1 ≤ wc.heap.size from PRW.out.blk.lt)
      clear HZ2 HR
      go_wp2_with fail
      go_loopw [4, 6] (fun s4 s6 wl => ∃ (d : ByteArray) (v : Nat) (AL : Option Addr) (cL : Nat), s4 = .string d ∧ s6 = .slice AL (natL v).length cL ∧ d.size ≤ 65536 ∧ (natL v).length ≤ 65536 - d.size ∧ Hid (Got wc wl wc.heap.size D.data.toList d.data.toList AL cL v)) (fun s4 _ _ => strLen s4)
      case atStart => exact ⟨D, 0, none, 0, rfl, rfl, HDS.out, Nat.zero_le _, Hd ⟨⟨[], rfl, rfl⟩, .inl rfl, ⟨none, 0, rfl, Nat.le_refl _, by omega, World.ownsRow_nil _ _ _ _⟩, Below.refl _ _⟩⟩
      case round =>
        obtain ⟨d, v, AL, cL, rfl, rfl, hd, hvl, HG⟩ := hrel
        by_cases h0 : d.size = 0
        · have hnil : d.data.toList = [] := List.eq_nil_of_length_eq_zero (by rw [← Lib.size_eq]; exact h0)
          have g2 : d.toList = [] := by rw [ByteArray.toList_eq]; exact hnil
          have g1 : d.toList.isEmpty = true := by rw [g2]; rfl
          have HZN := Hd (show zz = some (if neg then -(v : Int) else v) by
            obtain ⟨pre, h1, h2⟩ := HG.out.ex
            obtain ⟨v2, h3, h4⟩ := HV.out
            rw [h1, hnil, List.append_nil, h2] at h3
            rw [h4, Option.some.inj h3])
          have H5 := Hd (exact_signed_own neg (.slice AL (natL v).length cL) v (natL v).length wc.heap.size wr (HG.out.own.ownL (Nat.le_refl _)))
          have HLW := Hd HG.out.low
          clear hnil h0 HG hvl
          go_wp2_with fail
          refine H5.out.mono ?_
          rintro e w9 ⟨v9, rfl, hI, hb⟩
          obtain ⟨b9, A9, k9, c9, rfl⟩ : ∃ b A k c, v9 = .agg #[.bool b, .slice A k c] := by obtain ⟨A, c, h1, -⟩ := hI.form; exact ⟨_, _, _, _, h1⟩
          have hlow := belowTo HLW.out hb
          have pr := PRW.out.below hlow
          obtain ⟨l_r, r0, r1, f0, f1⟩ := pr.facts
          have HFB := Hd (below2 (belowTo HBW.out hlow) (Nat.le_refl w.heap.size) (.bool b9) (.slice A9 k9 c9))
          have HQ := Hd (pr.store (.bool b9) (.slice A9 k9 c9))
          have HI := Hd (hI.pair (g := w.heap.size) (a := .bool b9) (b := .slice A9 k9 c9) HW.out)
          clear hI hb hlow pr H5
          go_wp2_with fail
          obtain ⟨_, k0, k1, _, _⟩ := HQ.out.facts
          exact bodyPost_ret (v := .tuple #[.agg #[.bool b9, .slice A9 k9 c9], .bool true]) (by simp [results, Tryz.results186, go_sem, k0, k1]) rfl ⟨_, by rw [HZN.out]; rfl, by rw [HZN.out]; exact HI.out.base (Nat.le_of_lt HW.out), HFB.out⟩
        · obtain ⟨n, hn⟩ : ∃ n, n = (d.size - 1) % 9 + 1 := ⟨_, rfl⟩
          have hn9 : n ≤ 9 := by omega
          have hnd : n ≤ d.size := by omega
          have e1 : (d.extract 0 n).data.toList = d.data.toList.take n := by rw [Lib.extract_data]; simp
          have e2 : (d.extract n d.size).data.toList = d.data.toList.drop n := by
            rw [Lib.extract_data]
            exact List.take_of_length_le (by rw [List.length_drop, ← Lib.size_eq]; exact Nat.le_refl _)
          have hsub : ∀ b ∈ d.data.toList.take n, isDig b = true := fun b hb => by
            obtain ⟨pre, h1, -⟩ := HG.out.ex
            exact HDIG.out b (by rw [h1]; exact List.mem_append_right _ (List.mem_of_mem_take hb))
          obtain ⟨p, hp⟩ : ∃ p, Lib.decFrom 0 (d.data.toList.take n) = some p := by
            cases h : Lib.decFrom 0 (d.data.toList.take n) with
            | none => exact absurd ((decFrom_nonD _ _).1 h) (nonD_not.2 hsub)
            | some p => exact ⟨p, rfl⟩
          have hlt9 : (d.data.toList.take n).length = n := by rw [List.length_take, ← Lib.size_eq]; omega
          have hp9 : p < 1000000000 := by
            have h1 := Lib.decFrom_lt _ _ _ hp
            rw [hlt9] at h1
            have h2 : 10 ^ n ≤ 10 ^ 9 := Nat.pow_le_pow_right (by omega) hn9
            have h3 : (10 : Nat) ^ 9 = 1000000000 := by decide
            omega
          have C1 := Hd (Tryz.strconv_Atoi (d.extract 0 n) (p : Int) (by rw [Lib.size_eq, e1, hlt9]; omega) (by
            rw [e1]
            exact atoi_digits hp (fun e => by rw [e] at hlt9; simp at hlt9; omega)) wr)
          have HGN := Hd (show (∃ pre, D.data.toList = pre ++ (d.extract n d.size).data.toList ∧ Lib.decFrom 0 pre = some (v * 1000000000 + p)) ∧ (d.extract n d.size).data.toList.length % 9 = 0 ∧ (d.extract n d.size).size < d.size ∧ (d.extract n d.size).size + 1 ≤ d.size by
            obtain ⟨pre, h1, h2⟩ := HG.out.ex
            have hl : (d.extract n d.size).data.toList.length = d.size - n := by rw [e2, List.length_drop, ← Lib.size_eq]
            refine ⟨⟨pre ++ d.data.toList.take n, by rw [e2, List.append_assoc, List.take_append_drop]; exact h1, ?_⟩, by rw [hl, hn]; omega, by rw [Lib.size_eq, hl]; omega, by rw [Lib.size_eq, hl]; omega⟩
            have h3 := decFrom_join h2 hp
            rw [hlt9] at h3
            rw [h3]
            congr 2
            rcases HG.out.nine with h4 | h4
            · rw [h4]; simp
            · rw [← Lib.size_eq] at h4
              rw [show n = 9 by omega])
          have g1 : d.toList.isEmpty = false := str_more (fun e => h0 (by rw [Lib.size_eq, e]; rfl))
          have g2 : ¬ d.toList = [] := str_more2 g1
          have b0 : (0 : Int) ≤ (d.size : Int) - 1 := by omega
          have b1 : ((d.size : Int) - 1) % 9 + 1 = (n : Int) := by omega
          have b2 : (0 : Int) ≤ (n : Int) := by omega
          have b3 : (n : Int) ≤ (d.size : Int) := by omega
          have HPN := Hd (And.intro hp9 hn9)
          have HOWN := Hd HG.out.own
          have HLOW := Hd HG.out.low
          clear e1 e2 hsub hp hlt9 hn HG
          go_wp2_with fail
          refine C1.out.mono ?_
          rintro e w2 ⟨rfl, tt, hw2⟩
          have hb2 : Below wr.heap.size wr w2 := by rw [hw2]; exact Lib.bytesWorld_below _ _ _
          have HO2 := Hd (HOWN.out.below hb2)
          have HL2 := Hd (belowTo HLOW.out hb2)
          have hp9' : (p : Int) < 1000000000 := by omega
          have hp0' : (0 : Int) ≤ (p : Int) := by omega
          have hown2 : w2.ownsRow wc.heap.size 104 1 (.slice AL (natL v).length cL) (natL v).length (cellsU (natL v)) := by
            obtain ⟨A', c', h1, h2, h3, h4⟩ := HO2.out.form
            injection h1 with a1 a2 a3
            subst a1 a3
            exact h4
          have HXV := Hd (And.intro (limbs_natL v) (val_natL v))
          have HQ3 := Hd hown2
          have hxl : (natL v).length ≤ 65536 := by omega
          have HVL := Hd hvl
          clear hb2 hw2 C1 HOWN HLOW HO2 hown2 hvl
          generalize natL v = xs at HXV HQ3 hxl HVL ⊢
          have H6 := Hd (show Nine wc w2 wc.heap.size AL cL xs p 0 p from ⟨⟨[], rfl, (fun x hx => by cases hx), HQ3.out, by simp [val]⟩, HL2.out⟩)
          go_wp2_with fail
          go_loopw [10, 62] (fun s10 s62 wl => ∃ cc i : Nat, s10 = .int .u64 cc ∧ s62 = .int .i64 i ∧ i ≤ xs.length ∧ cc < 1000000000 ∧ Hid (Nine wc wl wc.heap.size AL cL xs p i cc)) (fun _ s62 _ => xs.length - (intOf s62).toNat)
          case atStart => exact ⟨p, 0, rfl, rfl, Nat.zero_le _, HPN.out.1, H6⟩
          case round =>
            clear H6
            obtain ⟨cc, i, rfl, rfl, hix, hcc, HI⟩ := hrel
            by_cases hlt : i < xs.length
            · obtain ⟨P, hP, hPl, hown, hval⟩ := HI.out.ex
              obtain ⟨g, rfl, hg, -, -⟩ := own_block hown (by omega)
              have hil : i < (P ++ xs.drop i).length := by simp; omega
              have hcell := own_cell hown hil
              rw [at_next hP hlt hil] at hcell
              have fz := own_frozen hown i
              have hx32 := limbs_get HXV.out.1 hlt
              have hglt := (hown.lt g rfl).2
              generalize hxe : xs[i] = x at hcell hx32
              have hstep := nine_step hlt hxe hP hval
              have hset := row_set hown (i := i) (.int .u32 (((cc + x * 1000000000) % 4294967296 : Nat) : Int))
              rw [cells_next hP hlt] at hset
              have S := Hd (show Nine wc (wr.setCell ⟨g, i, none⟩ (.int .u32 (((cc + x * 1000000000) % 4294967296 : Nat) : Int))) wc.heap.size (some ⟨g, 0, none⟩) cL xs p (i + 1) ((cc + x * 1000000000) / 4294967296) from
                ⟨⟨_, by simp [hP], (fun y hy => by
                  rw [List.mem_append, List.mem_singleton] at hy
                  rcases hy with hy | rfl
                  · exact hPl y hy
                  · exact Nat.mod_lt _ (by omega)), hset, hstep⟩, HI.out.low.setCell (p := ⟨g, i, none⟩) hg _⟩)
              have HQ := Hd (show (cc + x * 1000000000) / 4294967296 < 1000000000 ∧ cc + x * 1000000000 < 18446744073709551616 ∧ i + 1 ≤ xs.length by omega)
              have d0 : (0 : Int) ≤ (i : Int) := by omega
              have d1 : (i : Int) < (xs.length : Int) := by omega
              have HLT := Hd hlt
              clear hxe hstep hset hP hPl hown hval hil HI hg hlt
              go_wp2_with fail
              rw [show ((cc : Int) + (x : Int) * 1000000000) / 4294967296 = (((cc + x * 1000000000) / 4294967296 : Nat) : Int) by omega, show ((cc : Int) + (x : Int) * 1000000000) % 4294967296 = (((cc + x * 1000000000) % 4294967296 : Nat) : Int) by omega]
              go_roundw
              case rel => exact ⟨_, i + 1, rfl, by go_num, HQ.out.2.2, HQ.out.1, S⟩
              case measure => simp [intOf]; have := HLT.out; omega
            · obtain rfl : i = xs.length := by omega
              obtain ⟨P, hP, hPl, hown, hval⟩ := HI.out.ex
              rw [List.drop_length, List.append_nil] at hown
              rw [List.take_length, HXV.out.2] at hval
              have HVV := Hd hval
              have HPL := Hd (And.intro hP hPl)
              have HOW := Hd hown
              have HLI := Hd HI.out.low
              have hcc2 : (cc : Int) < 1000000000 := by omega
              have hcc0 : (0 : Int) ≤ (cc : Int) := by omega
              clear hval hP hPl hown HI hlt
              go_wp2_with (
                at_builtin
                refine wpList_append_any _ rfl (.tmp 81) (.tmp 84) _ rfl wc.heap.size 104 i0 _ 1 4 Tryz.underlying23 hi hz0 hz1 hz2 rfl (by omega) (.slice AL xs.length cL) xs.length (cellsU P) rfl (HOW.out.alloc _) (wr.heap.size + 1) (some ⟨wr.heap.size, 0, none⟩) 1 1 [.int .u32 (cc : Int)] rfl (Reads.new1 wr _ 1 _ rfl) (by intro x hx; simp at hx; subst hx; rfl) (by unfold maxLen; omega) (by omega) (by have := HLI.out.size; simp; omega) ?_
                intro v' w4 ho hg4 _
                obtain ⟨A5, c5, rfl⟩ := own_form (by omega) ho
                have HO4 := Hd ho
                have HL4 := Hd ((HLI.out.alloc (by have := HLI.out.size; omega) (.cells #[.int .u32 (cc : Int)] 104)).grown hg4 (by have := HLI.out.size; simp; omega) (fun k hk => (HOW.out.lt k hk).1))
                clear ho hg4)
              obtain ⟨C4, hN5, hn5⟩ := nine_end HPL.out.1 HPL.out.2 hcc HVV.out HO4.out
              have H7 := Hd C4
              have HN := Hd (show Got wc w4 wc.heap.size D.data.toList (d.extract n d.size).data.toList A5 c5 (v * 1000000000 + p) from ⟨HGN.out.1, .inr HGN.out.2.1, hN5, HL4.out⟩)
              have HSZ := Hd (nine_size HGN.out.2.2.2 hd hn5 HVL.out)
              clear C4 hN5 hn5 HO4 HL4
              go_wp2_with fail
              refine H7.out.mono ?_
              rintro e w5 ⟨rfl, rfl⟩
              go_wp2_with fail
              go_roundw
              case rel => exact ⟨d.extract n d.size, v * 1000000000 + p, A5, c5, rfl, rfl, HSZ.out.1, HSZ.out.2.1, HN⟩
              case measure => exact HSZ.out.2.2
end Go.Proofs.YtipmkkobdbgphaaGreatDoor
