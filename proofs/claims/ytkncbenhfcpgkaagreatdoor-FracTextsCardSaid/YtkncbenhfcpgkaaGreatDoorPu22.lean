/- Several texts in one: Wordsq1, Shelfq1, Beyondq1, Longq1. -/
import Derived.Test.YtkncbenhfcpgkaaGreatDoorPu01
import Derived.Below
import Derived.Laws.OwnMore
import Derived.Deep.AppendLies
import Derived.Deep.Draws
import Derived.Laws.Rows
import Derived.Maps.AppendAt
import Derived.RegionTactic
import Derived.OwnWalk
import Derived.Laws.MakeOwn
import Derived.Laws.Entries
import Derived.Test.YtkncbenhfcpgkaaGreatDoorPu02
import Derived.Shelf.Strings.Builder1
import Derived.Shelf.Small.Bits
import Derived.Shelf.Strings.BuilderF
import Derived.Shelf.Strings.BuilderK
import Derived.Shelf.Strconv.Itoa0
import Derived.Shelf.Strconv.Itoa1
import Derived.Shelf.LaysM
import Derived.Shelf.Strconv.Itoa2
import Derived.Shelf.Strconv.Itoa3
import Derived.Test.YtkncbenhfcpgkaaGreatDoorProg
import Derived.Test.YtkncbenhfcpgkaaGreatDoorPu05
import Derived.WalkKit
import Derived.WalkSpells
import Derived.WalkLawsBesides
import Derived.Lib.Hide
import Derived.Test.YtkncbenhfcpgkaaGreatDoorPu07
import Derived.Test.YtkncbenhfcpgkaaGreatDoorPuHd
import Derived.Test.YtkncbenhfcpgkaaGreatDoorPu06
import Derived.Test.YtkncbenhfcpgkaaGreatDoorPu04
import Derived.Test.YtkncbenhfcpgkaaGreatDoorPu03
set_option maxRecDepth 100000
set_option maxHeartbeats 8000000
/- Words for memory. (Copied from the guide's page of words for memory.) -/
namespace Go.Proofs.YtkncbenhfcpgkaaGreatDoor
open Go.RowKit
section
variable {w w' : World} {B B' size n : Nat} {A : Option Addr} {xs : List Value}
end
section
variable {w w' : World} {g : Nat} {t : TypeId} {cs : Array Value}
end
section
variable {P : Program} (w : World)

end

section
variable {w w' : World} {g g' : Nat} {t : TypeId} {cs : Array Value}
theorem Blk.store4 (h : Blk w g t cs) (hs : cs.size = 4) (a b c d : Value) : Blk ((((w.setCell ⟨g, 0, none⟩ a).setCell ⟨g, 1, none⟩ b).setCell ⟨g, 2, none⟩ c).setCell ⟨g, 3, none⟩ d) g t #[a, b, c, d] := by
  have k := (((h.set_ 0 a).set_ 1 b).set_ 2 c).set_ 3 d
  have e : (((cs.setIfInBounds 0 a).setIfInBounds 1 b).setIfInBounds 2 c).setIfInBounds 3 d = #[a, b, c, d] := by
    obtain ⟨l⟩ := cs
    match l, hs with
    | [x0, x1, x2, x3], _ => rfl
  rwa [e] at k
theorem below4 {W : World} {B : Nat} (h : Below B W w) (hg : B ≤ g) (a b c d : Value) : Below B W ((((w.setCell ⟨g, 0, none⟩ a).setCell ⟨g, 1, none⟩ b).setCell ⟨g, 2, none⟩ c).setCell ⟨g, 3, none⟩ d) :=
  (((h.setCell (p := ⟨g, 0, none⟩) hg a).setCell (p := ⟨g, 1, none⟩) hg b).setCell (p := ⟨g, 2, none⟩) hg c).setCell (p := ⟨g, 3, none⟩) hg d
end
theorem add_more (a : Addr) (i j : Nat) (hj : j ≠ 0) : a.add (i + j) = ⟨(a.add i).block, (a.add i).off + j, none⟩ := by
  unfold Addr.add
  rw [if_neg (by omega)]
  by_cases hi : i = 0
  · subst hi; simp
  · rw [if_neg hi]; simp [Nat.add_assoc]
theorem Reads.row4 {w : World} {B n k : Nat} {A : Option Addr} {xs : List Value} {a b c d : Value} (h : Reads w B 4 A n xs) (hk : k < n) (h0 : xs[k * 4]? = some a) (h1 : xs[k * 4 + 1]? = some b) (h2 : xs[k * 4 + 2]? = some c) (h3 : xs[k * 4 + 3]? = some d) :
    ∃ ad : Addr, A = some ad ∧ ad.block < B ∧ w.cell? (ad.add (k * 4)) = some a ∧ w.cell? ⟨(ad.add (k * 4)).block, (ad.add (k * 4)).off + 1, none⟩ = some b ∧ w.cell? ⟨(ad.add (k * 4)).block, (ad.add (k * 4)).off + 2, none⟩ = some c ∧ w.cell? ⟨(ad.add (k * 4)).block, (ad.add (k * 4)).off + 3, none⟩ = some d := by
  obtain ⟨ad, e, hb, hc⟩ := h.2 (by omega)
  refine ⟨ad, e, hb, hc _ _ h0, ?_, ?_, ?_⟩
  · rw [← add_more _ _ 1 (by omega)]; exact hc _ _ h1
  · rw [← add_more _ _ 2 (by omega)]; exact hc _ _ h2
  · rw [← add_more _ _ 3 (by omega)]; exact hc _ _ h3
section
variable {w w' : World} {B : Nat} {e e2 : TypeId} {size n1 size2 n2 : Nat} {v1 v2 : Value} {xs1 xs2 : List Value}
end
section
variable {w w' : World} {B : Nat} {e : TypeId} {size n1 n2 n3 : Nat} {v1 v2 v3 : Value} {xs1 xs2 xs3 : List Value}
end
end Go.Proofs.YtkncbenhfcpgkaaGreatDoor

/-
  DERIVED: THE SHELF's CONTRACTS AT THIS DUMP, IN PLAIN WORDS (tools/lay-plain.mjs out of 'TryzShelf.lean', which tools/lay-shelf.mjs wrote): THE SAME DECLARATIONS UNDER THE SAME NAMES: 'import', 'namespace', 'open', 'def', 'theorem' AND NOTHING ELSE: no command of the shelf's: FOR A HAND-IN. Each laying: the table of numbers ('.._ren') and one theorem, a field a fact of the dump's own or the kernel's comparison; each contract: ONE APPLICATION.
-/
namespace Go.Proofs

open Go.Shelf
theorem Tryz.lays169 : Go.Proofs.Lays.n169 Tryz.prog Tryz.lays169_ren := {
  mixed := by kernel_rfl
  f169 := Tryz.func200.trans (congrArg some (by kernel_rfl))
  t0 := Tryz.underlying0
  a0 := Tryz.isAgg0
  z0 := Tryz.sizeOf0
  v0 := Tryz.zeroValue0
  t3 := Tryz.underlying3
  a3 := Tryz.isAgg3
  z3 := Tryz.sizeOf3
  v3 := Tryz.zeroValue3
  t9 := Tryz.underlying9
  a9 := Tryz.isAgg9
  z9 := Tryz.sizeOf9
  v9 := Tryz.zeroValue9
  t37 := Tryz.underlying227
  a37 := Tryz.isAgg227
  z37 := Tryz.sizeOf227
  v37 := Tryz.zeroValue227
  t70 := Tryz.underlying226
  a70 := Tryz.isAgg226
  z70 := Tryz.sizeOf226
  v70 := Tryz.zeroValue226
  t72 := Tryz.underlying229
  a72 := Tryz.isAgg229
  z72 := Tryz.sizeOf229
  v72 := Tryz.zeroValue229
  t127 := Tryz.underlying241
  a127 := Tryz.isAgg241
  z127 := Tryz.sizeOf241
  v127 := Tryz.zeroValue241 }
theorem Tryz.Builder_Extra_169 : Builder.Extra Tryz.prog Tryz.lays169_ren := {
  sizeBuilder := by kernel_rfl
  liesBuilder := by kernel_rfl
  t5 := Tryz.underlying5
  a5 := Tryz.isAgg5
  z5 := Tryz.sizeOf5
  v5 := Tryz.zeroValue5
  infoByte := by kernel_rfl
  cellsByte := by kernel_rfl
  sizeByte := by kernel_rfl
  neB5 := by decide }
open Go.RowKit in
theorem Tryz.Builder_String_any (B b : Nat) (l : List UInt8) (w : World) (h : Lib.IsBuilder 229 5 B b (Lib.byteCells l) w) (hBw : B ≤ w.heap.size) :
    Calls Tryz.prog 200 #[.pointer (some ⟨b, 0, none⟩)] w fun e w' => e = .returned (.string ⟨l.toArray⟩) ∧ Below B w w' := Any.Builder_String_any Tryz.lays169 Tryz.Builder_Extra_169 B b l w h hBw
theorem Tryz.laysM171 : Go.Proofs.LaysM.n171 Tryz.prog Tryz.laysM171_ren := {
  mixed := by kernel_rfl
  f129 := Tryz.func262.trans (congrArg some (by kernel_rfl))
  f171 := Tryz.func197.trans (congrArg some (by kernel_rfl))
  f243 := Tryz.func214.trans (congrArg some (by kernel_rfl))
  f246 := Tryz.func230.trans (congrArg some (by kernel_rfl))
  f283 := Tryz.func248.trans (congrArg some (by kernel_rfl))
  f284 := Tryz.func249.trans (congrArg some (by kernel_rfl))
  f285 := Tryz.func250.trans (congrArg some (by kernel_rfl))
  f286 := Tryz.func251.trans (congrArg some (by kernel_rfl))
  f317 := Tryz.func261.trans (congrArg some (by kernel_rfl))
  f318 := Tryz.func263.trans (congrArg some (by kernel_rfl))
  f319 := Tryz.func264.trans (congrArg some (by kernel_rfl))
  f320 := Tryz.func265.trans (congrArg some (by kernel_rfl))
  f337 := Tryz.func270.trans (congrArg some (by kernel_rfl))
  f338 := Tryz.func271.trans (congrArg some (by kernel_rfl))
  t0 := Tryz.underlying0
  a0 := Tryz.isAgg0
  z0 := Tryz.sizeOf0
  v0 := Tryz.zeroValue0
  t2 := Tryz.underlying2
  a2 := Tryz.isAgg2
  z2 := Tryz.sizeOf2
  v2 := Tryz.zeroValue2
  t3 := Tryz.underlying3
  a3 := Tryz.isAgg3
  z3 := Tryz.sizeOf3
  v3 := Tryz.zeroValue3
  t4 := Tryz.underlying4
  a4 := Tryz.isAgg4
  z4 := Tryz.sizeOf4
  v4 := Tryz.zeroValue4
  t5 := Tryz.underlying5
  a5 := Tryz.isAgg5
  z5 := Tryz.sizeOf5
  v5 := Tryz.zeroValue5
  t9 := Tryz.underlying9
  a9 := Tryz.isAgg9
  z9 := Tryz.sizeOf9
  v9 := Tryz.zeroValue9
  t20 := Tryz.underlying20
  a20 := Tryz.isAgg20
  z20 := Tryz.sizeOf20
  v20 := Tryz.zeroValue20
  t37 := Tryz.underlying227
  a37 := Tryz.isAgg227
  z37 := Tryz.sizeOf227
  v37 := Tryz.zeroValue227
  t46 := Tryz.underlying94
  a46 := Tryz.isAgg94
  z46 := Tryz.sizeOf94
  v46 := Tryz.zeroValue94
  t51 := Tryz.underlying70
  a51 := Tryz.isAgg70
  z51 := Tryz.sizeOf70
  v51 := Tryz.zeroValue70
  t53 := Tryz.underlying93
  a53 := Tryz.isAgg93
  z53 := Tryz.sizeOf93
  v53 := Tryz.zeroValue93
  t171 := Tryz.underlying270
  a171 := Tryz.isAgg270
  z171 := Tryz.sizeOf270
  v171 := Tryz.zeroValue270
  t173 := Tryz.underlying273
  a173 := Tryz.isAgg273
  z173 := Tryz.sizeOf273
  v173 := Tryz.zeroValue273
  t212 := Tryz.underlying285
  a212 := Tryz.isAgg285
  z212 := Tryz.sizeOf285
  v212 := Tryz.zeroValue285
  t213 := Tryz.underlying286
  a213 := Tryz.isAgg286
  z213 := Tryz.sizeOf286
  t232 := Tryz.underlying299
  a232 := Tryz.isAgg299
  z232 := Tryz.sizeOf299
  v232 := Tryz.zeroValue299
  t233 := Tryz.underlying300
  a233 := Tryz.isAgg300
  z233 := Tryz.sizeOf300
  v233 := Tryz.zeroValue300
  g17 := by kernel_rfl
  g18 := by kernel_rfl
  g19 := by kernel_rfl
  i0 := by kernel_rfl
  i2 := by kernel_rfl
  i3 := by kernel_rfl
  i4 := by kernel_rfl
  i5 := by kernel_rfl
  i9 := by kernel_rfl
  i20 := by kernel_rfl
  i37 := by kernel_rfl
  i46 := by kernel_rfl
  i51 := by kernel_rfl
  i53 := by kernel_rfl
  i171 := by kernel_rfl
  i173 := by kernel_rfl
  i212 := by kernel_rfl
  i232 := by kernel_rfl
  i233 := by kernel_rfl
  m17 := by kernel_rfl
  m18 := by kernel_rfl
  m19 := by kernel_rfl }
open Go.RowKit Go.Sort Go.Lib in
theorem Tryz.strconv_Itoa (n : Int) (h0 : -9223372036854775808 ≤ n) (h1 : n ≤ 9223372036854775807) (w : World) (htab : Lib.TabIs Tryz.prog w "internal/strconv.uint64pow10" .u64 Lib.pow10Tab) :
    Calls Tryz.prog 197 #[.int .i64 n] w fun e w' => e = .returned (.string ⟨(Lib.itoa n).toArray⟩) ∧ ∃ k os, w' = grow (w.drewN k) os := Any.strconv_Itoa Tryz.laysM171 n h0 h1 w htab
end Go.Proofs

/- Beyond: whether sizes, taken together, are too much to be copied. -/
namespace Go.Proofs.YtkncbenhfcpgkaaGreatDoor
open Go.RowKit

theorem cellsI_length (zs : List Nat) : (cellsI zs).length = zs.length := by simp [cellsI]
theorem cellsI_get {zs : List Nat} {k : Nat} (h : k < zs.length) : (cellsI zs)[k]? = some (.int .i64 zs[k]) := by simp [cellsI, h]
theorem sum_take_le (zs : List Nat) (k : Nat) : (zs.take k).sum ≤ zs.sum := by
  have h := List.take_append_drop k zs
  have : zs.sum = (zs.take k).sum + (zs.drop k).sum := by rw [← List.sum_append, h]
  omega
theorem sum_take_more (zs : List Nat) (k : Nat) (h : k < zs.length) : (zs.take (k + 1)).sum = (zs.take k).sum + zs[k] := by
  rw [List.take_succ_eq_append_getElem h, List.sum_append]; simp

/- Long of package exact and of the references: is one of these too long? -/
open Go.RowKit

theorem Reads.row2 {w : World} {B n k : Nat} {A : Option Addr} {xs : List Value} {a b : Value} (h : Reads w B 2 A n xs) (hk : k < n) (h0 : xs[k * 2]? = some a) (h1 : xs[k * 2 + 1]? = some b) :
    ∃ ad : Addr, A = some ad ∧ ad.block < B ∧ w.cell? (ad.add (k * 2)) = some a ∧ w.cell? ⟨(ad.add (k * 2)).block, (ad.add (k * 2)).off + 1, none⟩ = some b := by
  obtain ⟨ad, e, hb, hc⟩ := h.2 (by omega)
  refine ⟨ad, e, hb, hc _ _ h0, ?_⟩
  rw [← add_more _ _ 1 (by omega)]; exact hc _ _ h1
theorem flat2 {α : Type} (f g : α → Value) : ∀ (l : List α) (k : Nat) (hk : k < l.length), (l.flatMap fun m => [f m, g m])[k * 2]? = some (f l[k]) ∧ (l.flatMap fun m => [f m, g m])[k * 2 + 1]? = some (g l[k])
  | [], k, hk => by simp at hk
  | m :: l, 0, _ => by simp
  | m :: l, k + 1, hk => by
    have ih := flat2 f g l k (by simpa using hk)
    simp only [List.flatMap_cons, show (k + 1) * 2 = k * 2 + 2 by omega]
    simpa using ih
theorem long_one (neg : Bool) (A : Option Addr) (k c : Nat) (hk : k ≤ 9223372036854775807) (w : World) :
    Calls Tryz.prog 247 #[.agg #[.bool neg, .slice A k c]] w fun e w' => e = .returned (.bool (decide (2048 < k))) ∧ Below w.heap.size w w' := by
  by_cases h : 2048 < k
  · rw [decide_eq_true h]
    have h2 : (2048 : Int) < (k : Int) := by omega
    clear h
    go_enter Tryz.func247, Tryz.ntmps247
    go_wp2
    go_ret
    exact ⟨by go_num, by repeat (first | exact Below.refl _ _ | refine Below.alloc ?_ (by simp; try omega) _)⟩
  · rw [decide_eq_false h]
    have h2 : (k : Int) ≤ 2048 := by omega
    clear h
    go_enter Tryz.func247, Tryz.ntmps247
    go_wp2
    go_ret
    exact ⟨by go_num, by repeat (first | exact Below.refl _ _ | refine Below.alloc ?_ (by simp; try omega) _)⟩

theorem index_long (A : Option Addr) (c : Nat) (l : List Loc) (hl : l.length ≤ 9223372036854775807) (hs : ∀ x ∈ l, x.2.2.1 ≤ 9223372036854775807) (w : World) (h : Reads w w.heap.size 2 A l.length (cellsZ l)) :
    Calls Tryz.prog 260 #[.slice A l.length c, (.func (.func 247) #[] #[])] w fun e w' => ∃ k : Int, e = .returned (.int .i64 k) ∧ (decide (0 ≤ k) = l.any fun x => decide (2048 < x.2.2.1)) ∧ Below w.heap.size w w' := by
  have HR := Hd h
  have HS := Hd hs
  clear h hs
  have H0 := Hd (by intro j hj; omega : ∀ j (hj : j < 0), (h : j < l.length) → ¬ 2048 < l[j].2.2.1)
  go_enter Tryz.func260, Tryz.ntmps260
  go_wp2_with fail
  go_loopw [8] (fun s wr => ∃ i : Nat, s = .int .i64 i ∧ i ≤ l.length ∧ Hid (∀ j (hj : j < i), (h : j < l.length) → ¬ 2048 < l[j].2.2.1) ∧ Below w.heap.size w wr) (fun s _ => l.length - (intOf s).toNat)
  case atStart => exact ⟨0, rfl, Nat.zero_le _, H0, Below.refl _ _⟩
  case round =>
    obtain ⟨i, rfl, hi, HN, hb⟩ := hrel
    clear H0
    by_cases hlt : i < l.length
    · have a0 : (0 : Int) ≤ (i : Int) := by omega
      have a1 : (i : Int) < (l.length : Int) := by omega
      obtain ⟨e0, e1⟩ := flat2 (fun m : Loc => Value.bool m.1) (fun m : Loc => Value.slice m.2.1 m.2.2.1 m.2.2.2) l i hlt
      obtain ⟨ad, rfl, hbl, c0, c1⟩ := (HR.out.below hb).row2 hlt e0 e1
      have C := Hd (fun V => long_one l[i].1 l[i].2.1 l[i].2.2.1 l[i].2.2.2 (HS.out _ (List.getElem_mem hlt)) V)
      have HB := Hd hb
      clear e0 e1 hbl hb
      by_cases hlong : 2048 < l[i].2.2.1
      · rw [decide_eq_true hlong] at C
        have HL := Hd hlong
        clear hlong
        go_wp2_with (first | (go_at_call 247; with_reducible refine (C.out _).mono ?_; rintro e w' ⟨rfl, hb'⟩))
        go_ret
        refine ⟨_, rfl, ?_, belowTo HB.out hb'⟩
        rw [decide_eq_true (by omega), eq_comm, List.any_eq_true]
        exact ⟨l[i], List.getElem_mem hlt, decide_eq_true HL.out⟩
      · rw [decide_eq_false hlong] at C
        have HL := Hd hlong
        clear hlong
        go_wp2_with (first | (go_at_call 247; with_reducible refine (C.out _).mono ?_; rintro e w' ⟨rfl, hb'⟩))
        go_roundw
        case rel =>
          refine ⟨i + 1, by go_num, hlt, Hd fun j hj h => ?_, belowTo HB.out hb'⟩
          rcases (by omega : j < i ∨ j = i) with hj | rfl
          · exact HN.out j hj h
          · exact HL.out
        case measure => simp [intOf]; omega
    · have HB := Hd hb
      clear hb
      go_wp2_with fail
      go_ret
      refine ⟨_, rfl, ?_, HB.out⟩
      rw [decide_eq_false (by omega), eq_comm, List.any_eq_false]
      intro x hx
      obtain ⟨j, hj, rfl⟩ := List.getElem_of_mem hx
      simpa using HN.out j (by omega) hj

theorem contains_long (A : Option Addr) (c : Nat) (l : List Loc) (hl : l.length ≤ 9223372036854775807) (hs : ∀ x ∈ l, x.2.2.1 ≤ 9223372036854775807) (w : World) (h : Reads w w.heap.size 2 A l.length (cellsZ l)) :
    Calls Tryz.prog 246 #[.slice A l.length c, (.func (.func 247) #[] #[])] w fun e w' => e = .returned (.bool (l.any fun x => decide (2048 < x.2.2.1))) ∧ Below w.heap.size w w' := by
  have C := Hd (index_long A c l hl hs w h)
  clear h hs
  generalize (l.any fun x => decide (2048 < x.2.2.1)) = b at C ⊢
  go_enter Tryz.func246, Tryz.ntmps246
  go_wp2_with fail
  refine C.out.mono ?_
  rintro e w' ⟨k, rfl, rfl, hb⟩
  go_wp2_with fail
  go_ret
  exact ⟨rfl, hb⟩
theorem exact_Long (A : Option Addr) (c : Nat) (l : List Loc) (hl : l.length ≤ 9223372036854775807) (hs : ∀ x ∈ l, x.2.2.1 ≤ 9223372036854775807) (w : World) (h : Reads w w.heap.size 2 A l.length (cellsZ l)) :
    Calls Tryz.prog 227 #[.slice A l.length c] w fun e w' => e = .returned (.bool (l.any fun x => decide (2048 < x.2.2.1))) ∧ Below w.heap.size w w' := by
  have C := Hd (contains_long A c l hl hs w h)
  clear h hs
  generalize (l.any fun x => decide (2048 < x.2.2.1)) = b at C ⊢
  go_enter Tryz.func227, Tryz.ntmps227
  go_wp2_with fail
  refine C.out.mono ?_
  rintro e w' ⟨rfl, hb⟩
  go_wp2_with fail
  go_ret
  exact ⟨rfl, hb⟩

end Go.Proofs.YtkncbenhfcpgkaaGreatDoor
