/- Several texts in one: ReadZ, TrimDigits. -/
import Derived.Test.YtbdliabfdplohaaDoorBt10
import Derived.Lib.RabinKarpLaws
import Derived.Lib.Itoa
import Derived.Test.YtbdliabfdplohaaDoorBt01
import Derived.Test.YtbdliabfdplohaaDoorBt09
import Derived.Shelf.Strings.SlTrimAscii
set_option maxRecDepth 100000
set_option maxHeartbeats 8000000
/- What a text of a whole number says: plain Lean. -/
namespace Go.Proofs.YtbdliabfdplohaaDoor

def badD (D : List UInt8) (neg : Bool) : Bool := D.isEmpty || (D.head? == some 48 && (decide (1 < D.length) || neg))
def readN (D : List UInt8) (neg : Bool) : Option Nat := if badD D neg then none else Lib.decFrom 0 D
def negOf (s : List UInt8) : Bool := s.head? == some 45
def tailOf (s : List UInt8) : List UInt8 := if negOf s then s.tail else s
def readZ (s : List UInt8) : Option Int := (readN (tailOf s) (negOf s)).map fun n => if negOf s then -(n : Int) else n
theorem decFrom_none {l : List UInt8} {i : Nat} {b : UInt8} (h : l[i]? = some b) (hd : Lib.digitVal b = none) (acc : Nat) : Lib.decFrom acc l = none := by
  cases h2 : Lib.decFrom acc l with
  | none => rfl
  | some n =>
    obtain ⟨m, hm⟩ := Lib.decFrom_prefix l acc n h2 (i + 1)
    rw [List.take_add_one, h, Option.toList_some, decFrom_append] at hm
    cases h3 : Lib.decFrom acc (l.take i) with
    | none => rw [h3] at hm; cases hm
    | some k => rw [h3] at hm; simp [Lib.decFrom, hd] at hm
theorem digitVal_none {b : UInt8} (h : b.toNat < 48 ∨ 57 < b.toNat) : Lib.digitVal b = none := by
  unfold Lib.digitVal
  rw [if_neg (by omega)]
theorem digitVal_some {b : UInt8} (h1 : 48 ≤ b.toNat) (h2 : b.toNat ≤ 57) : Lib.digitVal b = some (b.toNat - 48) := by
  unfold Lib.digitVal
  rw [if_pos ⟨h1, h2⟩]
theorem decFrom_join {a b : List UInt8} {v p : Nat} (ha : Lib.decFrom 0 a = some v) (hb : Lib.decFrom 0 b = some p) : Lib.decFrom 0 (a ++ b) = some (v * 10 ^ b.length + p) := by
  rw [decFrom_append, ha]
  show Lib.decFrom v b = _
  rw [decFrom_scale, hb]
  rfl
theorem take_split (l : List UInt8) {i j : Nat} (h : i ≤ j) : l.take j = l.take i ++ (l.drop i).take (j - i) := by
  obtain ⟨k, rfl⟩ : ∃ k, j = i + k := ⟨j - i, by omega⟩
  rw [List.take_add, Nat.add_sub_cancel_left]
/- strings.Trim of the ten digits: is anything left? -/
open Go.RowKit

def isDig (b : UInt8) : Bool := decide (48 ≤ b.toNat ∧ b.toNat ≤ 57)
def NonD (l : List UInt8) : Prop := ∃ b ∈ l, isDig b = false
theorem NonD.cons {l : List UInt8} {b : UInt8} (h : isDig b = true) : NonD (b :: l) ↔ NonD l := by
  unfold NonD
  constructor
  · rintro ⟨x, hx, hx2⟩
    rw [List.mem_cons] at hx
    rcases hx with rfl | hx
    · rw [h] at hx2; cases hx2
    · exact ⟨x, hx, hx2⟩
  · rintro ⟨x, hx, hx2⟩
    exact ⟨x, List.mem_cons_of_mem _ hx, hx2⟩
theorem decFrom_nonD : ∀ (l : List UInt8) (acc : Nat), Lib.decFrom acc l = none ↔ NonD l
  | [], acc => by simp [Lib.decFrom, NonD]
  | b :: l, acc => by
    cases h : isDig b with
    | true =>
      have h2 : 48 ≤ b.toNat ∧ b.toNat ≤ 57 := by unfold isDig at h; simpa using h
      rw [NonD.cons h, Lib.decFrom, digitVal_some h2.1 h2.2]
      exact decFrom_nonD l _
    | false =>
      have h2 : ¬ (48 ≤ b.toNat ∧ b.toNat ≤ 57) := by unfold isDig at h; simpa using h
      rw [Lib.decFrom, digitVal_none (by omega)]
      exact ⟨fun _ => ⟨b, List.mem_cons_self, h⟩, fun _ => rfl⟩
theorem digs_contains (x : UInt8) : ([48, 49, 50, 51, 52, 53, 54, 55, 56, 57] : List UInt8).contains x = isDig x := by
  rw [Bool.eq_iff_iff]
  unfold isDig
  simp [← UInt8.toNat_inj]
  omega
theorem dropWhile_nil {p : UInt8 → Bool} : ∀ (l : List UInt8), l.dropWhile p = [] ↔ ∀ b ∈ l, p b = true
  | [] => by simp
  | b :: l => by
    rw [List.dropWhile_cons]
    cases h : p b with
    | true => simp [h, dropWhile_nil l]
    | false => simp [h]
theorem nonD_not {l : List UInt8} : ¬ NonD l ↔ ∀ b ∈ l, isDig b = true := by
  unfold NonD
  constructor
  · intro h b hb
    cases hd : isDig b with
    | true => rfl
    | false => exact absurd ⟨b, hb, hd⟩ h
  · rintro h ⟨b, hb, hd⟩
    rw [h b hb] at hd; cases hd
theorem trimS_digits (l : List UInt8) : Lib.trimS l [48, 49, 50, 51, 52, 53, 54, 55, 56, 57] = [] ↔ ¬ NonD l := by
  have e : (fun x => ([48, 49, 50, 51, 52, 53, 54, 55, 56, 57] : List UInt8).contains x) = isDig := funext digs_contains
  unfold Lib.trimS Lib.trimLeftS Lib.trimRightS
  rw [e, dropWhile_nil, nonD_not]
  constructor
  · intro h
    have h1 : (l.reverse.dropWhile isDig) = [] := by
      cases h2 : l.reverse.dropWhile isDig with
      | nil => rfl
      | cons x r =>
        exfalso
        have h3 := List.head?_dropWhile_not isDig l.reverse
        rw [h2] at h3
        simp at h3
        have := h x (by rw [h2]; simp)
        rw [h3] at this; cases this
    intro b hb
    exact (dropWhile_nil _).1 h1 b (by simpa using hb)
  · intro h b hb
    have h1 : l.reverse.dropWhile isDig = [] := (dropWhile_nil _).2 (fun b hb => h b (by simpa using hb))
    rw [h1] at hb
    cases hb
def Trimmed (s : ByteArray) (w : World) (e : Ending) (w' : World) : Prop := ∃ t : ByteArray, e = .returned (.string t) ∧ (t.data.toList = [] ↔ ¬ NonD s.data.toList) ∧ Below w.heap.size w w'
theorem strings_Trim_digits (s : ByteArray) (hs : s.size ≤ 65536) (w : World) :
    Calls Tryd.prog 37 #[.string s, .string ⟨#[48, 49, 50, 51, 52, 53, 54, 55, 56, 57]⟩] w (Trimmed s w) :=
  (Any.strings_Trim_ascii Tryd.lays160 (fun _ => by kernel_rfl) (by kernel_rfl) s ⟨#[48, 49, 50, 51, 52, 53, 54, 55, 56, 57]⟩ w (by omega) (by decide) (by
    intro j b hb
    have hm : b ∈ ([48, 49, 50, 51, 52, 53, 54, 55, 56, 57] : List UInt8) := List.mem_of_getElem? hb
    have h2 := digs_contains b
    rw [List.contains_iff_mem.2 hm] at h2
    have h3 : 48 ≤ b.toNat ∧ b.toNat ≤ 57 := by unfold isDig at h2; simpa using h2.symm
    omega)).mono fun _ _ ⟨h1, h2⟩ => ⟨_, h1, trimS_digits _, h2⟩
end Go.Proofs.YtbdliabfdplohaaDoor
