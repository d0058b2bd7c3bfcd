/- Several texts in one: ShelfC, IndexRune, LastAny, GParse, RParse. -/
import Derived.Laws.RangeString
import Derived.Shelf.Small.Utf8
import Derived.Shelf.Strings.Runes
import Derived.Test.YtdonecnhdkjniaaGreatDoorGy35
import Derived.Shelf.Unicode.DecodeLast
import Derived.Shelf.Strings.AsciiSet
set_option maxRecDepth 100000
set_option maxHeartbeats 8000000
namespace Go.Proofs.YtdonecnhdkjniaaGreatDoor
open Go.RowKit

theorem index_rune_err (s : ByteArray) (hs : s = ⟨#[43, 45]⟩) (w : World) : Calls Tryz.prog 99 #[.string s, .int .i32 65533] w fun e w' => e = .returned (.int .i64 (-1)) /\ Below w.heap.size w w' := by
 have hsz : s.size = 2 := by rw [hs]; rfl
 have HA := Hd (show ∀ (i : Nat) (hi : i < s.size), (s[i]'hi).toNat < 128 /\ ((((s[i]'hi).toNat : Nat) : Int) == 65533) = false from by
  subst hs
  intro i hi
  have hi2 : i < 2 := hi
  rcases (by omega : i = 0 ∨ i = 1) with rfl | rfl
  . rw [show (⟨#[43, 45]⟩ : ByteArray)[0]'hi = 43 from rfl]; decide
  . rw [show (⟨#[43, 45]⟩ : ByteArray)[1]'hi = 45 from rfl]; decide)
 clear hs hsz
 go_enter Tryz.func99, Tryz.ntmps99
 go_wp2_with fail
 go_loopg [5] s.size (fun g s5 wx => ∃ i : Nat, i + g = s.size /\ wx = w.iter s i)
 case atStart => exact ⟨0, by omega, rfl⟩
 case round =>
  obtain ⟨i, hig, rfl⟩ := hrel
  cases gk with
  | zero =>
    obtain rfl : i = s.size := by omega
    have hnx := run_next_end (P := Tryz.prog) w s s.size
    go_wp2_with fail
    go_ret
    exact ⟨rfl, (Below.refl _ _).alloc (Nat.le_refl _) _⟩
  | succ g =>
    have hi : i < s.size := by omega
    obtain ⟨ha, hb⟩ := HA.out i hi
    have hnx := fun ty => run_next_ascii (P := Tryz.prog) w s i ty hi ha
    go_wp2_with fail
    go_roundg g
    case measure => omega
    case rel => exact ⟨i + 1, by omega, rfl⟩
theorem encode_form {r : Int} (h : 128 <= r) : ∃ (t : ByteArray) (n : Nat), Utf8.encode r = t /\ t.size = n /\ 2 <= n /\ n <= 4 /\ (∀ h2 : 1 < t.size, 128 <= (t[1]'h2).toNat) := by
 have hc : 128 <= (if Utf8.valid r then r.toNat else Utf8.runeError) := by
   split
   . omega
   . decide
 refine ⟨_, _, rfl, rfl, ?_⟩
 unfold Utf8.encode
 obtain ⟨c, e⟩ : ∃ c, c = (if Utf8.valid r then r.toNat else Utf8.runeError) := ⟨_, rfl⟩
 rw [<- e] at hc ⊢
 clear e
 dsimp only
 rw [if_neg (by omega)]
 split
 . refine ⟨Nat.le_refl 2, show 2 <= 4 by decide, fun h2 => ?_⟩
   show 128 <= (UInt8.ofNat (128 + c % 64)).toNat
   rw [UInt8.toNat_ofNat']
   omega
 . split
   . refine ⟨show 2 <= 3 by decide, show 3 <= 4 by decide, fun h2 => ?_⟩
     show 128 <= (UInt8.ofNat (128 + c / 64 % 64)).toNat
     rw [UInt8.toNat_ofNat']
     omega
   . refine ⟨show 2 <= 4 by decide, show 4 <= 4 by decide, fun h2 => ?_⟩
     show 128 <= (UInt8.ofNat (128 + c / 4096 % 64)).toNat
     rw [UInt8.toNat_ofNat']
     omega
theorem index_rune_rest (s : ByteArray) (hs : s = ⟨#[43, 45]⟩) (r : Int) (h : 128 <= r) (hr : r ≠ 65533) (w : World) : Calls Tryz.prog 99 #[.string s, .int .i32 r] w fun e w' => e = .returned (.int .i64 (-1)) /\ Below w.heap.size w w' := by
 have C1 := fun (V : World) => Any.utf8_ValidRune (P := Tryz.prog) (ρ := Tryz.lays160_ren) { Tryz.lays160 with } r V
 obtain ⟨b, hb⟩ : ∃ b, b = Lib.validRune r := ⟨_, rfl⟩
 rw [<- hb] at C1
 clear hb
 have h1 : ¬ (r < 128) := by omega
 have h2 : (r == 65533) = false := by simpa using hr
 have h3 : (0 : Int) <= r := by omega
 obtain ⟨t, n, ht, htn, hn2, hn4, hlast⟩ := encode_form h
 go_enter Tryz.func99, Tryz.ntmps99
 go_wp2_with fail
 refine (C1 w).mono ?_
 rintro e w1 ⟨rfl, rfl⟩
 cases b
 case false =>
  go_wp2_with fail
  go_ret
  exact ⟨rfl, Below.refl _ _⟩
 case true =>
  clear C1
  rcases (by omega : n = 2 ∨ n = 3 ∨ n = 4) with rfl | rfl | rfl
  . go_wp2_with fail
    go_step3
    go_wp2_with fail
    go_loopg [9] 1 (fun g s9 wx => g = 1 /\ s9 = .int .i64 1 /\ wx = w1)
    case atStart => exact ⟨rfl, rfl, rfl⟩
    case round =>
     obtain ⟨-, rfl, rfl⟩ := hrel
     have C2 : ∀ (V : World) (c : Int), Calls Tryz.prog 171 #[.string ByteArray.empty, .int .u8 c] V fun e w' => e = .returned (.int .i64 (-1)) /\ w' = V := fun V c => Any.strings_IndexByte (P := Tryz.prog) (ρ := Tryz.lays160_ren) { Tryz.lays160 with } ByteArray.empty c V
     have hne : ((((⟨#[43, 45]⟩ : ByteArray)[1]'(by decide)).toNat : Int) != ((t[1]'(by omega)).toNat : Int)) = true := by
      have := hlast (by omega)
      rw [show (⟨#[43, 45]⟩ : ByteArray)[1]'(by decide) = 45 from rfl]
      simp
      omega
     go_wp2_with fail
     go_step3
     go_wp2_with fail
     go_quiet (fail)
     go_wp2_with fail
     go_quiet ((exact (C2 _ _).mono (fun e w'' h => ⟨h.1, _, h.2⟩)))
     go_wp2_with fail
     rw [Exit.noGoto_ret]
     go_wp2_with fail
     rw [Exit.noGoto_ret]
     go_ret
     exact ⟨rfl, Yf (Below.refl _ _) _⟩
  . go_wp2_with fail
    go_step3
    go_wp2_with fail
    go_loopg [9] 1 (fun g s9 wx => g = 1 /\ s9 = .int .i64 2 /\ wx = w1)
    case atStart => exact ⟨rfl, rfl, rfl⟩
    case round =>
     obtain ⟨-, rfl, rfl⟩ := hrel
     go_wp2_with fail
     rw [Exit.noGoto_ret]
     go_ret
     exact ⟨rfl, Below.refl _ _⟩
  . go_wp2_with fail
    go_step3
    go_wp2_with fail
    go_loopg [9] 1 (fun g s9 wx => g = 1 /\ s9 = .int .i64 3 /\ wx = w1)
    case atStart => exact ⟨rfl, rfl, rfl⟩
    case round =>
     obtain ⟨-, rfl, rfl⟩ := hrel
     go_wp2_with fail
     rw [Exit.noGoto_ret]
     go_ret
     exact ⟨rfl, Below.refl _ _⟩
def Xa (r : Int) : Int := if r = 43 then 0 else if r = 45 then 1 else -1
theorem index_rune (s : ByteArray) (hs : s = ⟨#[43, 45]⟩) (r : Int) (h0 : 0 <= r) (w : World) : Calls Tryz.prog 99 #[.string s, .int .i32 r] w fun e w' => e = .returned (.int .i64 (Xa r)) /\ Below w.heap.size w w' := by
 by_cases h : r < 128
 . refine (Any.strings_IndexRune_ascii (P := Tryz.prog) (ρ := Tryz.lays160_ren) { Tryz.lays160 with } s r w h0 h).mono ?_
   rintro e w' ⟨rfl, rfl⟩
   refine ⟨?_, Below.refl _ _⟩
   rw [hs]
   obtain ⟨n, rfl⟩ : ∃ n : Nat, r = n := ⟨r.toNat, by omega⟩
   have hn : n < 128 := by omega
   unfold Xa
   show Ending.returned (.int .i64 (Lib.indexByte [43, 45] n.toUInt8)) = _
   have e1 : n.toUInt8.toNat = n := by rw [show n.toUInt8 = UInt8.ofNat n from rfl, UInt8.toNat_ofNat']; omega
   have k1 : ((43 : UInt8) == n.toUInt8) = decide (n = 43) := by
     rw [Bool.eq_iff_iff]
     simp only [beq_iff_eq, decide_eq_true_eq]
     exact ⟨fun h => by rw [<- e1, <- h]; rfl, fun h => by rw [h]; rfl⟩
   have k2 : ((45 : UInt8) == n.toUInt8) = decide (n = 45) := by
     rw [Bool.eq_iff_iff]
     simp only [beq_iff_eq, decide_eq_true_eq]
     exact ⟨fun h => by rw [<- e1, <- h]; rfl, fun h => by rw [h]; rfl⟩
   unfold Lib.indexByte Lib.indexByte Lib.indexByte
   rw [k1, k2]
   by_cases a : n = 43
   . simp [a]
   . by_cases b : n = 45
     . simp [b]
     . have a2 : ¬ ((n : Int) = 43) := by omega
       have b2 : ¬ ((n : Int) = 45) := by omega
       simp [a, b, a2, b2]
 . have e : Xa r = -1 := by unfold Xa; rw [if_neg (by omega), if_neg (by omega)]
   rw [e]
   by_cases hr : r = 65533
   . subst hr
     exact index_rune_err s hs w
   . exact index_rune_rest s hs r (by omega) hr w

theorem pmAt_tail : ∀ (a : List UInt8) {b : List UInt8}, (∀ x ∈ b, pm x = false) -> Yk (a ++ b) = Yk a
 | [], b, h => by rw [List.nil_append, pmAt_none h]; rfl
 | x :: r, b, h => by rw [List.cons_append, Jm, Jm, pmAt_tail r h]
theorem mem_drop_getD {l : List UInt8} {i : Nat} {x : UInt8} (h : x ∈ l.drop i) : ∃ j, i <= j /\ j < l.length /\ l.getD j 0 = x := by
 obtain ⟨k, hk, e⟩ := List.mem_iff_getElem.1 h
 rw [List.length_drop] at hk
 refine ⟨i + k, by omega, by omega, ?_⟩
 rw [List.getElem_drop] at e
 rw [List.getD_eq_getElem?_getD, List.getElem?_eq_getElem (by omega), e]
 rfl
theorem pmAt_take {l : List UInt8} {i : Nat} (h : ∀ j, i <= j -> j < l.length -> pm (l.getD j 0) = false) : Yk (l.take i) = Yk l := by
 have := pmAt_tail (l.take i) (b := l.drop i) fun x hx => by
  obtain ⟨j, h1, h2, h3⟩ := mem_drop_getD hx
  rw [<- h3]
  exact h j h1 h2
 rw [List.take_append_drop] at this
 exact this.symm
theorem pmAt_found {l : List UInt8} {i : Nat} (hi : i < l.length) (hp : pm (l.getD i 0) = true) (h : ∀ j, i + 1 <= j -> j < l.length -> pm (l.getD j 0) = false) : Yk l = i := by
 rw [<- pmAt_take (i := i + 1) h]
 have e : l.take (i + 1) = l.take i ++ l.getD i 0 :: [] := by
  rw [List.take_add_one, List.getElem?_eq_getElem hi, List.getD_eq_getElem?_getD, List.getElem?_eq_getElem hi]
  rfl
 rw [e, pmAt_here hp (fun b hb => by cases hb), List.length_take]
 omega
theorem pm_high {b : UInt8} (h : 128 <= b.toNat) : pm b = false := by
 unfold pm
 have h1 : b ≠ 43 := fun e => by subst e; exact absurd h (by decide)
 have h2 : b ≠ 45 := fun e => by subst e; exact absurd h (by decide)
 simp [h1, h2]
theorem pmRune_high {r : Int} (h : 128 <= r) : Xa r = -1 := by unfold Xa; rw [if_neg (by omega), if_neg (by omega)]
theorem pmRune_byte (b : UInt8) : (0 <= Xa (b.toNat : Int)) ↔ pm b = true := by
 have k1 : (b = 43) ↔ b.toNat = 43 := by rw [<- UInt8.toNat_inj]; rfl
 have k2 : (b = 45) ↔ b.toNat = 45 := by rw [<- UInt8.toNat_inj]; rfl
 unfold Xa pm
 rw [Bool.or_eq_true, beq_iff_eq, beq_iff_eq, k1, k2]
 constructor
 . intro h
   split at h
   . omega
   . split at h
     . omega
     . omega
 . rintro (h | h)
   . rw [if_pos (by omega)]; decide
   . rw [if_neg (by omega), if_pos (by omega)]; decide
theorem last_rune_of (s : ByteArray) (w : World) (hs : s.size <= 9223372036854775807) (hT : Lib.Utf8Tabs 2 3 w) :
  Calls Tryz.prog 103 #[.string s] w fun e w' => e = .returned (.tuple #[.int .i32 (Lib.decodeLastL s.data.toList).1, .int .i64 (Lib.decodeLastL s.data.toList).2]) /\ Below w.heap.size w w' :=
 Any.utf8_DecodeLastRuneInString (P := Tryz.prog) (ρ := Tryz.lays160_ren) { Tryz.lays160 with } s w hs hT
theorem ext_list (s : ByteArray) (i : Nat) : (s.extract 0 i).data.toList = s.data.toList.take i := by
 rw [Lib.extract_eq]
 simp
theorem last_round {l : List UInt8} {i : Nat} (h0 : 0 < i) (hi : i <= l.length) (h : ∀ j, i <= j -> j < l.length -> pm (l.getD j 0) = false) :
   ∃ (r : Int) (k : Nat), Lib.decodeLastL (l.take i) = (r.toNat, k) /\ 0 <= r /\ 1 <= k /\ k <= i /\ (0 <= Xa r -> Yk l = ((i - k : Nat) : Int)) /\ (Xa r < 0 -> ∀ j, i - k <= j -> j < l.length -> pm (l.getD j 0) = false) := by
 have hl : (l.take i).length = i := by rw [List.length_take]; omega
 have hne : l.take i ≠ [] := fun e => by rw [e] at hl; simp at hl; omega
 have hg : ∀ j, j < i -> (l.take i).getD j 0 = l.getD j 0 := fun j hj => by
   rw [List.getD_eq_getElem?_getD, List.getD_eq_getElem?_getD, List.getElem?_take, if_pos hj]
 have hb := hg (i - 1) (by omega)
 by_cases hlow : (l.getD (i - 1) 0).toNat < 128
 . refine ⟨((l.getD (i - 1) 0).toNat : Int), 1, ?_, by omega, by omega, by omega, ?_, ?_⟩
   . rw [last_low _ hne (by rw [hl, hb]; exact hlow), hl, hb]
     simp
   . intro hp
     rw [pmRune_byte] at hp
     exact pmAt_found (by omega) hp (fun j h1 h2 => h j (by omega) h2)
   . intro hp j h1 h2
     by_cases e : j = i - 1
     . rw [e]
       cases hq : pm (l.getD (i - 1) 0) with
       | false => rfl
       | true => have := (pmRune_byte _).2 hq; omega
     . exact h j (by omega) h2
 . have hw := Lib.decodeLastL_width (l.take i) (by omega)
   obtain ⟨h1, h2⟩ := last_high (l.take i) hne (by rw [hl, hb]; omega)
   rw [hl] at hw h2
   refine ⟨((Lib.decodeLastL (l.take i)).1 : Int), (Lib.decodeLastL (l.take i)).2, by simp, by omega, hw.1, hw.2, ?_, ?_⟩
   . intro hp
     rw [pmRune_high (by omega)] at hp
     omega
   . intro _ j h3 h4
     by_cases hj : j < i
     . have := h2 j h3 hj
       rw [hg j hj] at this
       exact pm_high this
     . exact h j (by omega) h4
theorem should_set (n : Int) (w : World) : Calls Tryz.prog 100 #[.int .i64 n] w fun e w' => e = .returned (.bool (decide (8 < n))) /\ w' = w := by
 go_enter Tryz.func100, Tryz.ntmps100
 go_wp2_with fail
 go_ret
 exact ⟨rfl, rfl⟩
theorem last_any_short (s : ByteArray) (h1 : s.size ≠ 1) (h8 : s.size <= 8) (w : World) (hT : Lib.Utf8Tabs 2 3 w) :
  Calls Tryz.prog 26 #[.string s, .string ⟨#[43, 45]⟩] w fun e w' => e = .returned (.int .i64 (Yk s.data.toList)) /\ Below w.heap.size w w' := by
 have hl : s.data.toList.length = s.size := (Lib.size_eq s).symm
 have hk : decide (8 < (s.size : Int)) = false := by simp; omega
 have hq : ((s.size : Int) == 1) = false := by simp; omega
 have C1 : Calls Tryz.prog 100 #[.int .i64 s.size] w fun e w' => e = .returned (.bool false) /\ w' = w := by
  have := should_set s.size w
  rw [hk] at this
  exact this
 go_enter Tryz.func26, Tryz.ntmps26
 go_wp2_with fail
 refine C1.mono ?_
 rintro e w1 ⟨rfl, rfl⟩
 clear C1
 go_wp2_with fail
 go_loopg [13] s.size (fun g s13 wx => g <= s.size /\ s13 = .int .i64 g /\ (∀ j, g <= j -> j < s.size -> pm (s.data.toList.getD j 0) = false) /\ Below w1.heap.size w1 wx)
 case atStart => exact ⟨Nat.le_refl _, rfl, fun j h2 h3 => by omega, Below.refl _ _⟩
 case round =>
  obtain ⟨hg, rfl, hn, hb⟩ := hrel
  by_cases h0 : gk = 0
  . subst h0
    have e : Yk s.data.toList = -1 := by
      rw [<- pmAt_take (i := 0) fun j h2 h3 => hn j h2 (by omega)]
      rfl
    go_wp2_with fail
    go_ret
    exact ⟨by rw [e]; rfl, hb⟩
  . obtain ⟨r, k, hr, hr0, hk1, hk2, hf, hc⟩ := last_round (l := s.data.toList) (i := gk) (by omega) (by omega) (fun j h2 h3 => hn j h2 (by omega))
    have C2 := last_rune_of (s.extract 0 gk) wr (by rw [Lib.size_eq, ext_list, List.length_take]; omega) (Utf8Tabs_below hT hb)
    rw [ext_list, hr] at C2
    simp only [Int.toNat_of_nonneg hr0] at C2
    have C3 := fun (V : World) => index_rune ⟨#[43, 45]⟩ rfl r hr0 V
    have h7 : (0 : Int) < (gk : Int) := by omega
    go_wp2_with fail
    refine C2.mono ?_
    rintro e w2 ⟨rfl, hb2⟩
    have h9 : ((gk - k : Nat) : Int) = (gk : Int) - (k : Int) := by omega
    clear C2
    by_cases hp : 0 <= Xa r
    . have ep := hf hp
      clear hf hc
      go_wp2_with fail
      refine (C3 w2).mono ?_
      rintro e w3 ⟨rfl, hb3⟩
      go_wp2_with fail
      go_ret

      exact ⟨by rw [ep, h9]; rfl, Below.trans (Below.trans hb (hb2.mono (by have := hb.size; omega))) (hb3.mono (by have := hb.size; have := hb2.size; omega))⟩
    . have hc2 := hc (by omega)
      have hp2 : Xa r < 0 := by omega
      clear hf hc
      go_wp2_with fail
      refine (C3 w2).mono ?_
      rintro e w3 ⟨rfl, hb3⟩
      go_wp2_with fail
      go_roundg (gk - k)
      case measure => omega
      case rel => exact ⟨by omega, by rw [h9], fun j h2 h3 => hc2 j h2 (by omega), Below.trans (Below.trans hb (hb2.mono (by have := hb.size; omega))) (hb3.mono (by have := hb.size; have := hb2.size; omega))⟩
theorem last_any_one (s : ByteArray) (h1 : s.size = 1) (w : World) :
   Calls Tryz.prog 26 #[.string s, .string ⟨#[43, 45]⟩] w fun e w' => e = .returned (.int .i64 (Yk s.data.toList)) /\ Below w.heap.size w w' := by
 obtain ⟨c, hc⟩ : ∃ c, c = s[0]'(by omega) := ⟨_, rfl⟩
 have hs : s.data.toList = [c] := by
   have h2 := Lib.data_getElem? s 0 (by omega)
   rw [<- hc] at h2
   have h3 : s.data.toList.length = 1 := by rw [<- Lib.size_eq]; exact h1
   cases hd : s.data.toList with
   | nil => rw [hd] at h3; cases h3
   | cons a t =>
     rw [hd] at h2 h3
     simp at h2 h3
     rw [h2, h3]
 have hv : Yk s.data.toList = if pm c then 0 else -1 := by rw [hs]; rfl
 have C3 := fun (V : World) => index_rune ⟨#[43, 45]⟩ rfl (c.toNat : Int) (by omega) V
 have C4 := fun (V : World) => index_rune ⟨#[43, 45]⟩ rfl 65533 (by omega) V
 rw [show Xa 65533 = -1 from rfl] at C4
 have hp := pmRune_byte c
 rw [hv]
 clear hs hv
 have hq : ((s.size : Int) == 1) = true := by simp [h1]
 have hw : wrap32 (((s[0]'(by omega)).toNat : Nat) : Int) = (c.toNat : Int) := by
   rw [<- hc]
   have := UInt8.toNat_lt c
   unfold wrap32
   omega
 clear hc
 by_cases hh : (128 : Int) <= (c.toNat : Int)
 . have e0 : pm c = false := pm_high (by omega)
   rw [e0]
   clear C3 hp e0
   go_enter Tryz.func26, Tryz.ntmps26
   go_wp2_with fail
   refine (C4 w).mono ?_
   rintro e w1 ⟨rfl, hb⟩
   go_wp2_with fail
   go_ret
   exact ⟨rfl, hb⟩
 . clear C4
   by_cases hz : 0 <= Xa (c.toNat : Int)
   . rw [hp.1 hz]
     clear hp
     go_enter Tryz.func26, Tryz.ntmps26
     go_wp2_with fail
     refine (C3 w).mono ?_
     rintro e w1 ⟨rfl, hb⟩
     go_wp2_with fail
     go_ret
     exact ⟨rfl, hb⟩
   . have e0 : pm c = false := by
      cases h : pm c with
      | false => rfl
      | true => exact absurd (hp.2 h) hz
     rw [e0]
     clear hp e0
     go_enter Tryz.func26, Tryz.ntmps26
     go_wp2_with fail
     refine (C3 w).mono ?_
     rintro e w1 ⟨rfl, hb⟩
     go_wp2_with fail
     go_ret
     exact ⟨rfl, hb⟩
theorem last_any_long (s : ByteArray) (h8 : 8 < s.size) (hs : s.size <= 9223372036854775807) (w : World) :
  Calls Tryz.prog 26 #[.string s, .string ⟨#[43, 45]⟩] w fun e w' => e = .returned (.int .i64 (Yk s.data.toList)) /\ Below w.heap.size w w' := by
 have hl : s.data.toList.length = s.size := (Lib.size_eq s).symm
 have hk : decide (8 < (s.size : Int)) = true := by simp; omega
 have hq : ((s.size : Int) == 1) = false := by simp; omega
 have C1 := should_set s.size w
 rw [hk] at C1
 obtain ⟨cs, hcs⟩ : ∃ cs, cs = Lib.setCells [43, 45] := ⟨_, rfl⟩
 have CM : Calls Tryz.prog 101 #[.string ⟨#[43, 45]⟩] w fun e w' => e = .returned (.tuple #[.agg cs, .bool true]) /\ w' = w.alloc (.cells cs 89) := by
  rw [hcs]
  exact Any.strings_makeASCIISet (P := Tryz.prog) (ρ := Tryz.lays160_ren) { Tryz.lays160 with } (fun _ => by kernel_rfl) (by kernel_rfl) ⟨#[43, 45]⟩ w (by decide) (by
    intro j b hb
    have hb2 : ([43, 45] : List UInt8)[j]? = some b := hb
    rcases j with _ | _ | j
    . cases hb2; decide
    . cases hb2; decide
    . cases hb2)
 have hsz : cs.size = 256 := by rw [hcs]; exact Lib.setCells_size _
 have hsc : (storeCells ⟨w.heap.size + 1, 0, none⟩ cs.toList 0).run Tryz.prog ((w.alloc (.cells cs 89)).alloc (.cells (Array.replicate 256 (.bool false)) 89)) = .ok () ((w.alloc (.cells cs 89)).alloc (.cells cs 89)) := by
  have := run_storeCells_new (P := Tryz.prog) (w.alloc (.cells cs 89)) 89 (Array.replicate 256 (.bool false)) cs (by rw [hsz]; kernel_rfl) (by rw [hsz, Array.size_replicate]) (by rw [hcs]; exact Lib.setCells_one _)
  simpa using this
 have HSC := Hd hsc
 have hcs0 := Hd (show ∀ x : UInt8, cs[x.toNat]? = some (.bool (pm x)) from fun x => by
  rw [hcs, Lib.setCells_at]
  rw [show ([43, 45] : List UInt8).contains x = pm x from by
    unfold pm
    simp [List.contains, List.elem, Bool.beq_eq_decide_eq]
    cases decide (x = 43) <;> cases decide (x = 45) <;> rfl])
 clear hsc hcs
 go_enter Tryz.func26, Tryz.ntmps26
 go_wp2_with fail
 refine C1.mono ?_
 rintro e w1 ⟨rfl, rfl⟩
 clear C1
 go_wp2_with fail
 refine CM.mono ?_
 rintro e w2 ⟨rfl, rfl⟩
 clear CM
 go_wp2_with fail
 rw [show Tryz.zeroCells89 = Array.replicate 256 (.bool false) from by kernel_rfl, HSC.out]
 simp only [Result.andThen]
 rw [Oper.upon_skip]
 clear HSC hsz
 obtain ⟨W, hW⟩ : ∃ W, W = (w1.alloc (.cells cs 89)).alloc (.cells cs 89) := ⟨_, rfl⟩
 rw [<- hW]
 have hbW : Below w1.heap.size w1 W := by rw [hW]; exact ((Below.refl _ _).alloc (Nat.le_refl _) _).alloc (by simp) _
 have HC := Hd (show ∀ x : UInt8, W.cell? ⟨w1.heap.size + 1, x.toNat, none⟩ = some (.bool (pm x)) from fun x => by
  rw [hW, World.cell?_alloc_at _ _ _ _ (by simp), hcs0.out x])
 clear hW
 go_wp2_with fail
 go_loopg [8] s.size (fun g s8 wx => g <= s.size /\ s8 = .int .i64 ((g : Int) - 1) /\ (∀ j, g <= j -> j < s.size -> pm (s.data.toList.getD j 0) = false) /\ wx = W)
 case atStart => exact ⟨Nat.le_refl _, by first | rfl | (rw [show wrap64 ((s.size : Int) - 1) = (s.size : Int) - 1 from by unfold wrap64; omega]), fun j h2 h3 => by omega, rfl⟩
 case round =>
  obtain ⟨hg, rfl, hn, rfl⟩ := hrel
  by_cases h0 : gk = 0
  . subst h0
    have e : Yk s.data.toList = -1 := by
      rw [<- pmAt_take (i := 0) fun j h2 h3 => hn j h2 (by omega)]
      rfl
    go_wp2_with fail
    go_ret
    exact ⟨by rw [e]; rfl, hbW⟩
  . obtain ⟨i, rfl⟩ : ∃ i, gk = i + 1 := ⟨gk - 1, by omega⟩
    have hi : i < s.size := by omega
    have e1 : (((i + 1 : Nat) : Int) - 1) = (i : Int) := by omega
    rw [e1]
    obtain ⟨x, hx⟩ : ∃ x, x = s[i]'hi := ⟨_, rfl⟩
    have hg2 : s.data.toList.getD i 0 = x := by
      rw [List.getD_eq_getElem?_getD, Lib.data_getElem? s i hi, <- hx]
      rfl
    have C6 : Calls Tryz.prog 102 #[.pointer (some ⟨w1.heap.size + 1, 0, none⟩), .int .u8 (((s[i]'hi).toNat : Nat) : Int)] wr fun e w' => e = .returned (.bool (pm x)) /\ w' = wr := by
      rw [<- hx]
      exact Any.asciiSet_contains (P := Tryz.prog) (ρ := Tryz.lays160_ren) { Tryz.lays160 with } (w1.heap.size + 1) x (pm x) wr (HC.out x)
    have h7 : (0 : Int) <= (i : Int) := by omega
    have hi2 : (i : Int) < (s.size : Int) := by omega
    clear hx
    cases hp : pm x with
    | true =>
      rw [hp] at C6
      have ep := pmAt_found (l := s.data.toList) (i := i) (by omega) (by rw [hg2]; exact hp) (fun j h2 h3 => hn j h2 (by omega))
      go_wp2_with fail
      refine C6.mono ?_
      rintro e w2 ⟨rfl, rfl⟩
      go_wp2_with fail
      go_ret
      exact ⟨by rw [ep]; rfl, hbW⟩
    | false =>
      rw [hp] at C6
      have hn2 : ∀ j, i <= j -> j < s.size -> pm (s.data.toList.getD j 0) = false := fun j h2 h3 => by
       by_cases e : j = i
       . rw [e, hg2]; exact hp
       . exact hn j (by omega) h3
      go_wp2_with fail
      refine C6.mono ?_
      rintro e w2 ⟨rfl, rfl⟩
      go_wp2_with fail
      go_roundg i
      case measure => omega
      case rel => exact ⟨by omega, by first | rfl | (rw [show wrap64 ((i : Int) - 1) = (i : Int) - 1 from by unfold wrap64; omega]), hn2, rfl⟩
theorem last_any (s : ByteArray) (hs : s.size <= 9223372036854775807) (w : World) (hT : Lib.Utf8Tabs 2 3 w) :
   Calls Tryz.prog 26 #[.string s, .string ⟨#[43, 45]⟩] w fun e w' => e = .returned (.int .i64 (Yk s.data.toList)) /\ Below w.heap.size w w' := by
 by_cases h8 : 8 < s.size
 . exact last_any_long s h8 hs w
 . by_cases h1 : s.size = 1
   . exact last_any_one s h1 w
   . exact last_any_short s h1 (by omega) w hT

theorem ZY (w : World) (g : Nat) (x0 x1 x2 x3 : Value) : ∀ k, k ≠ g -> ((((w.setCell ⟨g, 0, none⟩ x0).setCell ⟨g, 1, none⟩ x1).setCell ⟨g, 2, none⟩ x2).setCell ⟨g, 3, none⟩ x3).heap[k]? = w.heap[k]? := by
 intro k hk
 rw [Below.heap_setCell _ ⟨g, 3, none⟩ x3 k hk, Below.heap_setCell _ ⟨g, 2, none⟩ x2 k hk, Below.heap_setCell _ ⟨g, 1, none⟩ x1 k hk, Below.heap_setCell _ ⟨g, 0, none⟩ x0 k hk]
theorem ZJ (w : World) (g : Nat) (x0 x1 x2 x3 : Value) : ∀ k, k ≠ g -> ((((w.setCell ⟨g, 4, none⟩ x0).setCell ⟨g, 5, none⟩ x1).setCell ⟨g, 6, none⟩ x2).setCell ⟨g, 7, none⟩ x3).heap[k]? = w.heap[k]? := by
 intro k hk
 rw [Below.heap_setCell _ ⟨g, 7, none⟩ x3 k hk, Below.heap_setCell _ ⟨g, 6, none⟩ x2 k hk, Below.heap_setCell _ ⟨g, 5, none⟩ x1 k hk, Below.heap_setCell _ ⟨g, 4, none⟩ x0 k hk]
theorem XJ {W w : World} {B g : Nat} (h : Below B W w) (hg : B <= g) (x0 x1 x2 x3 : Value) : Below B W ((((w.setCell ⟨g, 4, none⟩ x0).setCell ⟨g, 5, none⟩ x1).setCell ⟨g, 6, none⟩ x2).setCell ⟨g, 7, none⟩ x3) :=
 (((h.setCell (p := ⟨g, 4, none⟩) hg x0).setCell (p := ⟨g, 5, none⟩) hg x1).setCell (p := ⟨g, 6, none⟩) hg x2).setCell (p := ⟨g, 7, none⟩) hg x3
theorem ZX.re_ {w : World} {g : Nat} {T : TypeId} {a b c d e f h i : Value} (k : ZX w g T a b c d e f h i) (x0 x1 x2 x3 : Value) : ZX ((((w.setCell ⟨g, 0, none⟩ x0).setCell ⟨g, 1, none⟩ x1).setCell ⟨g, 2, none⟩ x2).setCell ⟨g, 3, none⟩ x3) g T x0 x1 x2 x3 e f h i := by
 have key := ((((k.blk.set_ 0 x0).set_ 1 x1).set_ 2 x2).set_ 3 x3)
 have e9 : ((((#[a, b, c, d, e, f, h, i].setIfInBounds 0 x0).setIfInBounds 1 x1).setIfInBounds 2 x2).setIfInBounds 3 x3) = #[x0, x1, x2, x3, e, f, h, i] := by simp
 rw [e9] at key
 exact ⟨key⟩
theorem ZX.im_ {w : World} {g : Nat} {T : TypeId} {a b c d e f h i : Value} (k : ZX w g T a b c d e f h i) (x0 x1 x2 x3 : Value) : ZX ((((w.setCell ⟨g, 4, none⟩ x0).setCell ⟨g, 5, none⟩ x1).setCell ⟨g, 6, none⟩ x2).setCell ⟨g, 7, none⟩ x3) g T a b c d x0 x1 x2 x3 := by
 have key := ((((k.blk.set_ 4 x0).set_ 5 x1).set_ 6 x2).set_ 7 x3)
 have e9 : ((((#[a, b, c, d, e, f, h, i].setIfInBounds 4 x0).setIfInBounds 5 x1).setIfInBounds 6 x2).setIfInBounds 7 x3) = #[a, b, c, d, x0, x1, x2, x3] := by simp
 rw [e9] at key
 exact ⟨key⟩
theorem ZX.far {w w' : World} {g g' : Nat} {T : TypeId} {a b c d e f h i : Value} (k : ZX w g T a b c d e f h i) (hw : ∀ k, k ≠ g' -> w'.heap[k]? = w.heap[k]?) (hn : g ≠ g') : ZX w' g T a b c d e f h i := by
 have h9 := k.blk
 refine ⟨?_⟩
 unfold Z2 at h9 ⊢
 rw [hw g hn]
 exact h9
section
variable {w : World} {base b : Nat} {A B A2 B2 : Option Addr} {c e c2 e2 : Nat} {n d m f : Int}
theorem Zk.mk_up (h1 : Ze w base (.agg #[.bool (decide (n < 0)), .slice A (Za n.natAbs).length c, .bool (decide (d < 0)), .slice B (Za d.natAbs).length e]) n d) (h2 : Ze w b (.agg #[.bool (decide (m < 0)), .slice A2 (Za m.natAbs).length c2, .bool (decide (f < 0)), .slice B2 (Za f.natAbs).length e2]) m f) (hb : base <= b) (ht : ∀ g, Yp (.agg #[.bool (decide (n < 0)), .slice A (Za n.natAbs).length c, .bool (decide (d < 0)), .slice B (Za d.natAbs).length e]) g -> g < b) : Zk w base (.agg #[.bool (decide (n < 0)), .slice A (Za n.natAbs).length c, .bool (decide (d < 0)), .slice B (Za d.natAbs).length e, .bool (decide (m < 0)), .slice A2 (Za m.natAbs).length c2, .bool (decide (f < 0)), .slice B2 (Za f.natAbs).length e2]) n d m f :=
 ⟨A, c, B, e, A2, c2, B2, e2, rfl, h1, h2.base hb, fun g hg h => by have := ht g hg; have := (h2.mine g h).1; omega⟩
theorem Zk.mk_down (h1 : Ze w b (.agg #[.bool (decide (n < 0)), .slice A (Za n.natAbs).length c, .bool (decide (d < 0)), .slice B (Za d.natAbs).length e]) n d) (h2 : Ze w base (.agg #[.bool (decide (m < 0)), .slice A2 (Za m.natAbs).length c2, .bool (decide (f < 0)), .slice B2 (Za f.natAbs).length e2]) m f) (hb : base <= b) (ht : ∀ g, Yp (.agg #[.bool (decide (m < 0)), .slice A2 (Za m.natAbs).length c2, .bool (decide (f < 0)), .slice B2 (Za f.natAbs).length e2]) g -> g < b) : Zk w base (.agg #[.bool (decide (n < 0)), .slice A (Za n.natAbs).length c, .bool (decide (d < 0)), .slice B (Za d.natAbs).length e, .bool (decide (m < 0)), .slice A2 (Za m.natAbs).length c2, .bool (decide (f < 0)), .slice B2 (Za f.natAbs).length e2]) n d m f :=
 ⟨A, c, B, e, A2, c2, B2, e2, rfl, h1.base hb, h2, fun g hg h => by have := ht g h; have := (h1.mine g hg).1; omega⟩
theorem Zk.parts (h : Zk w base (.agg #[.bool (decide (n < 0)), .slice A (Za n.natAbs).length c, .bool (decide (d < 0)), .slice B (Za d.natAbs).length e, .bool (decide (m < 0)), .slice A2 (Za m.natAbs).length c2, .bool (decide (f < 0)), .slice B2 (Za f.natAbs).length e2]) n d m f) : Ze w base (.agg #[.bool (decide (n < 0)), .slice A (Za n.natAbs).length c, .bool (decide (d < 0)), .slice B (Za d.natAbs).length e]) n d /\ Ze w base (.agg #[.bool (decide (m < 0)), .slice A2 (Za m.natAbs).length c2, .bool (decide (f < 0)), .slice B2 (Za f.natAbs).length e2]) m f := by
 obtain ⟨A', c', B', e', A2', c2', B2', e2', h0, h1, h2, -⟩ := h.form
 simp at h0
 obtain ⟨⟨rfl, rfl⟩, ⟨rfl, rfl⟩, ⟨rfl, rfl⟩, rfl, rfl⟩ := h0
 exact ⟨h1, h2⟩
end

theorem gparse_long  (s : ByteArray) (hl : 65536 < s.size) (w : World)   :
  Calls Tryz.prog 9 #[.string s] w (Zn w.heap.size w 0 0 0 0 4) := by
 have hz : (65536 : Int) < (s.size : Int) := by omega
 clear hl
 go_enter Tryz.func9, Tryz.ntmps9
 go_upto_region 1 with fail
 refine Zy (P := fun W => Code.wp _ _ _ _ W) fun W p0 b0 => ?_
 have PR := Hd (ZX.mk p0)
 have HB := Hd b0
 clear b0 p0
 obtain ⟨l_r, r0, r1, r2, r3, r4, r5, r6, r7⟩ := PR.out.facts
 obtain ⟨f0, f1, f2, f3, f4, f5, f6, f7⟩ := PR.out.free
 have H9 := Hd (gzero PR.out HB.out (show w.heap.size <= w.heap.size by omega))
 go_wp2_with fail
 obtain ⟨_, k0, k1, k2, k3, k4, k5, k6, k7⟩ := H9.out.1.facts
 exact bodyPost_ret (by simp [results, Tryz.results9, go_sem, k0, k1, k2, k3, k4, k5, k6, k7]) rfl ⟨_, rfl, Zk.nought _ _, H9.out.2⟩

theorem gparse_B0 {z0 o : Int} (s : ByteArray) (hl : s.size <= 65536) (C0 : ∀ V : World, Calls Tryz.prog 24 #[.int .i64 0, .int .i64 0] V (Zo V.heap.size V z0 o z0 o)) (fr : ByteArray) (C1 : ∀ V : World, Calls Tryz.prog 25 #[.string s, .string ⟨#[105]⟩] V fun e w' => e = .returned (.tuple #[.string fr, .bool false]) /\ Below V.heap.size V w') (C2 : ∀ V : World, Calls Tryz.prog 27 #[.string s] V (YP V false)) (w : World)   :
  Calls Tryz.prog 9 #[.string s] w (Zn w.heap.size w 0 0 0 0 5) := by
 have hz : (s.size : Int) <= 65536 := by omega
 clear hl
 have H0 := Hd C0
 have H1 := Hd C1
 have H2 := Hd C2
 clear C0 C1 C2
 go_enter Tryz.func9, Tryz.ntmps9
 go_upto_region 1 with fail
 refine Zy (P := fun W => Code.wp _ _ _ _ W) fun W p0 b0 => ?_
 have PR := Hd (ZX.mk p0)
 have HB := Hd b0
 clear b0 p0
 go_wp2_with fail
 refine (H0.out W).mono ?_
 rintro e wx1 ⟨v, rfl, hI, hb⟩
 have hlt := (PR.out.below hb).blk.lt
 have hi := hI.in_
 obtain ⟨Az1, cz1, Az2, cz2, Az3, cz3, Az4, cz4, rfl, -⟩ := hI.form
 have HS_z := Hd HB.out.size
 have ha := (Below.refl wx1.heap.size wx1).alloc (Nat.le_refl _) (.cells #[.bool (decide (z0 < 0)), .slice Az1 (Za z0.natAbs).length cz1, .bool (decide (o < 0)), .slice Az2 (Za o.natAbs).length cz2, .bool (decide (z0 < 0)), .slice Az3 (Za z0.natAbs).length cz3, .bool (decide (o < 0)), .slice Az4 (Za o.natAbs).length cz4] 28)
 have hq := ZX.new wx1 28 (.bool (decide (z0 < 0))) (.slice Az1 (Za z0.natAbs).length cz1) (.bool (decide (o < 0))) (.slice Az2 (Za o.natAbs).length cz2) (.bool (decide (z0 < 0))) (.slice Az3 (Za z0.natAbs).length cz3) (.bool (decide (o < 0))) (.slice Az4 (Za o.natAbs).length cz4)
 have hi := hi.below ha
 have ho := hI.below ha
 have PR := Hd (PR.out.below hb)
 have HB := Hd (Zb HB.out hb)
 have PR := Hd (PR.out.below ha)
 have HB := Hd (Zb HB.out ha)
 go_upto_region 4 with fail
 obtain ⟨wy1, E⟩ : ∃ W, W = wx1.alloc (.cells #[.bool (decide (z0 < 0)), .slice Az1 (Za z0.natAbs).length cz1, .bool (decide (o < 0)), .slice Az2 (Za o.natAbs).length cz2, .bool (decide (z0 < 0)), .slice Az3 (Za z0.natAbs).length cz3, .bool (decide (o < 0)), .slice Az4 (Za o.natAbs).length cz4] 28) := ⟨_, rfl⟩
 obtain ⟨b_z, hbq⟩ : ∃ q, q = wx1.heap.size := ⟨_, rfl⟩
 rw [<- E] at hi ho PR HB
 rw [<- E, <- hbq] at hq ⊢
 have P_z := Hd hq
 have O_z := Hd hi
 have Q_z := Hd ho
 clear ho
 have N_z := Hd (show w.heap.size < b_z by rw [hbq]; exact hlt)
 clear hlt
 clear hI hi hb ha hq hbq E
 have O_re := Hd (Q_z.out.parts.1.base HS_z.out)
 have O_im := Hd (Q_z.out.parts.2.base HS_z.out)
 clear Q_z HS_z O_z
 go_wp2_with fail
 refine (H1.out wy1).mono ?_
 rintro e wx2 ⟨rfl, hb⟩
 have P_z := Hd (P_z.out.below hb)
 have PR := Hd (PR.out.below hb)
 have O_re := Hd (O_re.out.below hb)
 have O_im := Hd (O_im.out.below hb)
 have HB := Hd (Zb HB.out hb)
 clear hb
 go_wp2_with fail
 refine (H2.out wx2).mono ?_
 rintro e wx3 ⟨n, d, v, rfl, hI, hb⟩
 obtain ⟨Aa1, ca1, Aa2, ca2, rfl, -⟩ := hI.form
 have P_z := Hd (P_z.out.below hb)
 have PR := Hd (PR.out.below hb)
 have HB := Hd (Zb HB.out hb)
 obtain ⟨l_z, z_0, z_1, z_2, z_3, z_4, z_5, z_6, z_7⟩ := P_z.out.facts
 obtain ⟨f0, f1, f2, f3, f4, f5, f6, f7⟩ := P_z.out.free
 have pz := P_z.out.re_ (.bool (decide (n < 0))) (.slice Aa1 (Za n.natAbs).length ca1) (.bool (decide (d < 0))) (.slice Aa2 (Za d.natAbs).length ca2)
 have pr := PR.out.far (ZY wx3 b_z (.bool (decide (n < 0))) (.slice Aa1 (Za n.natAbs).length ca1) (.bool (decide (d < 0))) (.slice Aa2 (Za d.natAbs).length ca2)) (by have := N_z.out; omega)
 have hb4 := Yc HB.out (show w.heap.size <= b_z by have := N_z.out; omega) (.bool (decide (n < 0))) (.slice Aa1 (Za n.natAbs).length ca1) (.bool (decide (d < 0))) (.slice Aa2 (Za d.natAbs).length ca2)
 go_upto_region 19 with fail
 obtain ⟨wh3_0, E⟩ : ∃ Y, Y = ((((wx3.setCell ⟨b_z, 0, none⟩ (.bool (decide (n < 0)))).setCell ⟨b_z, 1, none⟩ (.slice Aa1 (Za n.natAbs).length ca1)).setCell ⟨b_z, 2, none⟩ (.bool (decide (d < 0)))).setCell ⟨b_z, 3, none⟩ (.slice Aa2 (Za d.natAbs).length ca2)) := ⟨_, rfl⟩
 rw [<- E] at pz pr hb4  ⊢
 clear l_z z_0 z_1 z_2 z_3 z_4 z_5 z_6 z_7 f0 f1 f2 f3 f4 f5 f6 f7 E
 clear hI hb
 have P_z := Hd pz
 have PR := Hd pr
 have HB := Hd hb4
 clear pz pr hb4 
 obtain ⟨l_r, r0, r1, r2, r3, r4, r5, r6, r7⟩ := PR.out.facts
 obtain ⟨f0, f1, f2, f3, f4, f5, f6, f7⟩ := PR.out.free
 have H9 := Hd (gzero PR.out HB.out (show w.heap.size <= w.heap.size by omega))
 go_wp2_with fail
 obtain ⟨_, k0, k1, k2, k3, k4, k5, k6, k7⟩ := H9.out.1.facts
 exact bodyPost_ret (by simp [results, Tryz.results9, go_sem, k0, k1, k2, k3, k4, k5, k6, k7]) rfl ⟨_, rfl, Zk.nought _ _, H9.out.2⟩

theorem gparse_B1 {z0 o n d N D M E K : Int} (s : ByteArray) (hl : s.size <= 65536) (C0 : ∀ V : World, Calls Tryz.prog 24 #[.int .i64 0, .int .i64 0] V (Zo V.heap.size V z0 o z0 o)) (fr : ByteArray) (C1 : ∀ V : World, Calls Tryz.prog 25 #[.string s, .string ⟨#[105]⟩] V fun e w' => e = .returned (.tuple #[.string fr, .bool false]) /\ Below V.heap.size V w') (C2 : ∀ V : World, Calls Tryz.prog 27 #[.string s] V (ZF V n d true)) (C9 : Y5 n d z0 o N D M E K) (w : World)   :
  Calls Tryz.prog 9 #[.string s] w (Zn w.heap.size w N D M E K) := by
 have hz : (s.size : Int) <= 65536 := by omega
 clear hl
 have H0 := Hd C0
 have H1 := Hd C1
 have H2 := Hd C2
 have H9 := Hd C9
 clear C0 C1 C2 C9
 go_enter Tryz.func9, Tryz.ntmps9
 go_upto_region 1 with fail
 refine Zy (P := fun W => Code.wp _ _ _ _ W) fun W p0 b0 => ?_
 have PR := Hd (ZX.mk p0)
 have HB := Hd b0
 clear b0 p0
 go_wp2_with fail
 refine (H0.out W).mono ?_
 rintro e wx1 ⟨v, rfl, hI, hb⟩
 have hlt := (PR.out.below hb).blk.lt
 have hi := hI.in_
 obtain ⟨Az1, cz1, Az2, cz2, Az3, cz3, Az4, cz4, rfl, -⟩ := hI.form
 have HS_z := Hd HB.out.size
 have ha := (Below.refl wx1.heap.size wx1).alloc (Nat.le_refl _) (.cells #[.bool (decide (z0 < 0)), .slice Az1 (Za z0.natAbs).length cz1, .bool (decide (o < 0)), .slice Az2 (Za o.natAbs).length cz2, .bool (decide (z0 < 0)), .slice Az3 (Za z0.natAbs).length cz3, .bool (decide (o < 0)), .slice Az4 (Za o.natAbs).length cz4] 28)
 have hq := ZX.new wx1 28 (.bool (decide (z0 < 0))) (.slice Az1 (Za z0.natAbs).length cz1) (.bool (decide (o < 0))) (.slice Az2 (Za o.natAbs).length cz2) (.bool (decide (z0 < 0))) (.slice Az3 (Za z0.natAbs).length cz3) (.bool (decide (o < 0))) (.slice Az4 (Za o.natAbs).length cz4)
 have hi := hi.below ha
 have ho := hI.below ha
 have PR := Hd (PR.out.below hb)
 have HB := Hd (Zb HB.out hb)
 have PR := Hd (PR.out.below ha)
 have HB := Hd (Zb HB.out ha)
 go_upto_region 4 with fail
 obtain ⟨wy1, E⟩ : ∃ W, W = wx1.alloc (.cells #[.bool (decide (z0 < 0)), .slice Az1 (Za z0.natAbs).length cz1, .bool (decide (o < 0)), .slice Az2 (Za o.natAbs).length cz2, .bool (decide (z0 < 0)), .slice Az3 (Za z0.natAbs).length cz3, .bool (decide (o < 0)), .slice Az4 (Za o.natAbs).length cz4] 28) := ⟨_, rfl⟩
 obtain ⟨b_z, hbq⟩ : ∃ q, q = wx1.heap.size := ⟨_, rfl⟩
 rw [<- E] at hi ho PR HB
 rw [<- E, <- hbq] at hq ⊢
 have P_z := Hd hq
 have O_z := Hd hi
 have Q_z := Hd ho
 clear ho
 have N_z := Hd (show w.heap.size < b_z by rw [hbq]; exact hlt)
 clear hlt
 clear hI hi hb ha hq hbq E
 have O_re := Hd (Q_z.out.parts.1.base HS_z.out)
 have O_im := Hd (Q_z.out.parts.2.base HS_z.out)
 clear Q_z HS_z O_z
 go_wp2_with fail
 refine (H1.out wy1).mono ?_
 rintro e wx2 ⟨rfl, hb⟩
 have P_z := Hd (P_z.out.below hb)
 have PR := Hd (PR.out.below hb)
 have O_re := Hd (O_re.out.below hb)
 have O_im := Hd (O_im.out.below hb)
 have HB := Hd (Zb HB.out hb)
 clear hb
 go_wp2_with fail
 have HS0 := Hd HB.out.size
 have T_im := Hd (fun g h => (O_im.out.mine g h).2)
 refine (H2.out wx2).mono ?_
 rintro e wx3 ⟨v, rfl, hI, hb⟩
 obtain ⟨Aa1, ca1, Aa2, ca2, rfl, -⟩ := hI.form
 have P_z := Hd (P_z.out.below hb)
 have PR := Hd (PR.out.below hb)
 have O_im := Hd (O_im.out.below hb)
 have HB := Hd (Zb HB.out hb)
 obtain ⟨l_z, z_0, z_1, z_2, z_3, z_4, z_5, z_6, z_7⟩ := P_z.out.facts
 obtain ⟨f0, f1, f2, f3, f4, f5, f6, f7⟩ := P_z.out.free
 have pz := P_z.out.re_ (.bool (decide (n < 0))) (.slice Aa1 (Za n.natAbs).length ca1) (.bool (decide (d < 0))) (.slice Aa2 (Za d.natAbs).length ca2)
 have pr := PR.out.far (ZY wx3 b_z (.bool (decide (n < 0))) (.slice Aa1 (Za n.natAbs).length ca1) (.bool (decide (d < 0))) (.slice Aa2 (Za d.natAbs).length ca2)) (by have := N_z.out; omega)
 have hb4 := Yc HB.out (show w.heap.size <= b_z by have := N_z.out; omega) (.bool (decide (n < 0))) (.slice Aa1 (Za n.natAbs).length ca1) (.bool (decide (d < 0))) (.slice Aa2 (Za d.natAbs).length ca2)
 have q_O_im := O_im.out.other P_z.out.blk (by decide) (ZY wx3 b_z (.bool (decide (n < 0))) (.slice Aa1 (Za n.natAbs).length ca1) (.bool (decide (d < 0))) (.slice Aa2 (Za d.natAbs).length ca2))
 have q_O_re := Ze.other (hI) P_z.out.blk (by decide) (ZY wx3 b_z (.bool (decide (n < 0))) (.slice Aa1 (Za n.natAbs).length ca1) (.bool (decide (d < 0))) (.slice Aa2 (Za d.natAbs).length ca2))
 go_upto_region 19 with fail
 obtain ⟨wh3_0, E⟩ : ∃ Y, Y = ((((wx3.setCell ⟨b_z, 0, none⟩ (.bool (decide (n < 0)))).setCell ⟨b_z, 1, none⟩ (.slice Aa1 (Za n.natAbs).length ca1)).setCell ⟨b_z, 2, none⟩ (.bool (decide (d < 0)))).setCell ⟨b_z, 3, none⟩ (.slice Aa2 (Za d.natAbs).length ca2)) := ⟨_, rfl⟩
 rw [<- E] at pz pr hb4 q_O_im q_O_re ⊢
 clear l_z z_0 z_1 z_2 z_3 z_4 z_5 z_6 z_7 f0 f1 f2 f3 f4 f5 f6 f7 E
 clear hI hb
 have P_z := Hd pz
 have PR := Hd pr
 have HB := Hd hb4
 have O_im := Hd q_O_im
 have O_re := Hd q_O_re
 clear pz pr hb4 q_O_im q_O_re
 obtain ⟨l_z, z_0, z_1, z_2, z_3, z_4, z_5, z_6, z_7⟩ := P_z.out.facts
 go_wp2_with fail
 refine (H9.out wh3_0 w.heap.size _ HB.out.size (Zk.mk_down O_re.out O_im.out HS0.out T_im.out)).mono ?_
 rintro e w9 ⟨v, rfl, hI, hb⟩
 obtain ⟨A6, c6, A7, c7, A8, c8, A9, c9, rfl, -⟩ := hI.form
 have pr := PR.out.below hb
 have hb9 := Zb HB.out hb
 obtain ⟨l_r, r0, r1, r2, r3, r4, r5, r6, r7⟩ := pr.facts
 obtain ⟨f0, f1, f2, f3, f4, f5, f6, f7⟩ := pr.free
 have HF := Hd (Jb hI pr hb9 (show w.heap.size <= w.heap.size by omega) (by decide))
 clear hb hb9 pr hI l_z z_0 z_1 z_2 z_3 z_4 z_5 z_6 z_7
 go_wp2_with fail
 obtain ⟨_, k0, k1, k2, k3, k4, k5, k6, k7⟩ := HF.out.1.facts
 exact bodyPost_ret (by simp [results, Tryz.results9, go_sem, k0, k1, k2, k3, k4, k5, k6, k7]) rfl ⟨_, rfl, HF.out.2.2, HF.out.2.1⟩

theorem gparse_C0 {z0 o at_ : Int} (s : ByteArray) (hl : s.size <= 65536) (C0 : ∀ V : World, Calls Tryz.prog 24 #[.int .i64 0, .int .i64 0] V (Zo V.heap.size V z0 o z0 o)) (fr : ByteArray) (ha : at_ <= 0) (C1 : ∀ V : World, Calls Tryz.prog 25 #[.string s, .string ⟨#[105]⟩] V fun e w' => e = .returned (.tuple #[.string fr, .bool true]) /\ Below V.heap.size V w') (C2 : ∀ V : World, Lib.Utf8Tabs 2 3 V -> Calls Tryz.prog 26 #[.string fr, .string ⟨#[43, 45]⟩] V fun e w' => e = .returned (.int .i64 at_) /\ Below V.heap.size V w') (C3 : ∀ V : World, Calls Tryz.prog 28 #[.string fr] V (YP V false)) (w : World)  (hu : Lib.Utf8Tabs 2 3 w) :
  Calls Tryz.prog 9 #[.string s] w (Zn w.heap.size w 0 0 0 0 5) := by
 have hz : (s.size : Int) <= 65536 := by omega
 clear hl
 have HU := Hd hu
 clear hu
 have H0 := Hd C0
 have H1 := Hd C1
 have H2 := Hd C2
 have H3 := Hd C3
 clear C0 C1 C2 C3
 go_enter Tryz.func9, Tryz.ntmps9
 go_upto_region 1 with fail
 refine Zy (P := fun W => Code.wp _ _ _ _ W) fun W p0 b0 => ?_
 have PR := Hd (ZX.mk p0)
 have HB := Hd b0
 clear b0 p0
 go_wp2_with fail
 refine (H0.out W).mono ?_
 rintro e wx1 ⟨v, rfl, hI, hb⟩
 have hlt := (PR.out.below hb).blk.lt
 have hi := hI.in_
 obtain ⟨Az1, cz1, Az2, cz2, Az3, cz3, Az4, cz4, rfl, -⟩ := hI.form
 have HS_z := Hd HB.out.size
 have ha := (Below.refl wx1.heap.size wx1).alloc (Nat.le_refl _) (.cells #[.bool (decide (z0 < 0)), .slice Az1 (Za z0.natAbs).length cz1, .bool (decide (o < 0)), .slice Az2 (Za o.natAbs).length cz2, .bool (decide (z0 < 0)), .slice Az3 (Za z0.natAbs).length cz3, .bool (decide (o < 0)), .slice Az4 (Za o.natAbs).length cz4] 28)
 have hq := ZX.new wx1 28 (.bool (decide (z0 < 0))) (.slice Az1 (Za z0.natAbs).length cz1) (.bool (decide (o < 0))) (.slice Az2 (Za o.natAbs).length cz2) (.bool (decide (z0 < 0))) (.slice Az3 (Za z0.natAbs).length cz3) (.bool (decide (o < 0))) (.slice Az4 (Za o.natAbs).length cz4)
 have hi := hi.below ha
 have ho := hI.below ha
 have PR := Hd (PR.out.below hb)
 have HB := Hd (Zb HB.out hb)
 have PR := Hd (PR.out.below ha)
 have HB := Hd (Zb HB.out ha)
 go_upto_region 4 with fail
 obtain ⟨wy1, E⟩ : ∃ W, W = wx1.alloc (.cells #[.bool (decide (z0 < 0)), .slice Az1 (Za z0.natAbs).length cz1, .bool (decide (o < 0)), .slice Az2 (Za o.natAbs).length cz2, .bool (decide (z0 < 0)), .slice Az3 (Za z0.natAbs).length cz3, .bool (decide (o < 0)), .slice Az4 (Za o.natAbs).length cz4] 28) := ⟨_, rfl⟩
 obtain ⟨b_z, hbq⟩ : ∃ q, q = wx1.heap.size := ⟨_, rfl⟩
 rw [<- E] at hi ho PR HB
 rw [<- E, <- hbq] at hq ⊢
 have P_z := Hd hq
 have O_z := Hd hi
 have Q_z := Hd ho
 clear ho
 have N_z := Hd (show w.heap.size < b_z by rw [hbq]; exact hlt)
 clear hlt
 clear hI hi hb ha hq hbq E
 have O_re := Hd (Q_z.out.parts.1.base HS_z.out)
 have O_im := Hd (Q_z.out.parts.2.base HS_z.out)
 clear Q_z HS_z O_z
 go_wp2_with fail
 refine (H1.out wy1).mono ?_
 rintro e wx2 ⟨rfl, hb⟩
 have P_z := Hd (P_z.out.below hb)
 have PR := Hd (PR.out.below hb)
 have O_re := Hd (O_re.out.below hb)
 have O_im := Hd (O_im.out.below hb)
 have HB := Hd (Zb HB.out hb)
 clear hb
 go_wp2_with fail
 refine (H2.out wx2 (Utf8Tabs_below HU.out HB.out)).mono ?_
 rintro e wx3 ⟨rfl, hb⟩
 have P_z := Hd (P_z.out.below hb)
 have PR := Hd (PR.out.below hb)
 have O_re := Hd (O_re.out.below hb)
 have O_im := Hd (O_im.out.below hb)
 have HB := Hd (Zb HB.out hb)
 clear hb
 go_wp2_with fail
 refine (H3.out wx3).mono ?_
 rintro e wx4 ⟨n, d, v, rfl, hI, hb⟩
 obtain ⟨Ab1, cb1, Ab2, cb2, rfl, -⟩ := hI.form
 have P_z := Hd (P_z.out.below hb)
 have PR := Hd (PR.out.below hb)
 have HB := Hd (Zb HB.out hb)
 obtain ⟨l_z, z_0, z_1, z_2, z_3, z_4, z_5, z_6, z_7⟩ := P_z.out.facts
 obtain ⟨f0, f1, f2, f3, f4, f5, f6, f7⟩ := P_z.out.free
 have pz := P_z.out.im_ (.bool (decide (n < 0))) (.slice Ab1 (Za n.natAbs).length cb1) (.bool (decide (d < 0))) (.slice Ab2 (Za d.natAbs).length cb2)
 have pr := PR.out.far (ZJ wx4 b_z (.bool (decide (n < 0))) (.slice Ab1 (Za n.natAbs).length cb1) (.bool (decide (d < 0))) (.slice Ab2 (Za d.natAbs).length cb2)) (by have := N_z.out; omega)
 have hb4 := XJ HB.out (show w.heap.size <= b_z by have := N_z.out; omega) (.bool (decide (n < 0))) (.slice Ab1 (Za n.natAbs).length cb1) (.bool (decide (d < 0))) (.slice Ab2 (Za d.natAbs).length cb2)
 go_upto_region 19 with fail
 obtain ⟨wh4_1, E⟩ : ∃ Y, Y = ((((wx4.setCell ⟨b_z, 4, none⟩ (.bool (decide (n < 0)))).setCell ⟨b_z, 5, none⟩ (.slice Ab1 (Za n.natAbs).length cb1)).setCell ⟨b_z, 6, none⟩ (.bool (decide (d < 0)))).setCell ⟨b_z, 7, none⟩ (.slice Ab2 (Za d.natAbs).length cb2)) := ⟨_, rfl⟩
 rw [<- E] at pz pr hb4  ⊢
 clear l_z z_0 z_1 z_2 z_3 z_4 z_5 z_6 z_7 f0 f1 f2 f3 f4 f5 f6 f7 E
 clear hI hb
 have P_z := Hd pz
 have PR := Hd pr
 have HB := Hd hb4
 clear pz pr hb4 
 obtain ⟨l_r, r0, r1, r2, r3, r4, r5, r6, r7⟩ := PR.out.facts
 obtain ⟨f0, f1, f2, f3, f4, f5, f6, f7⟩ := PR.out.free
 have H9 := Hd (gzero PR.out HB.out (show w.heap.size <= w.heap.size by omega))
 go_wp2_with fail
 obtain ⟨_, k0, k1, k2, k3, k4, k5, k6, k7⟩ := H9.out.1.facts
 exact bodyPost_ret (by simp [results, Tryz.results9, go_sem, k0, k1, k2, k3, k4, k5, k6, k7]) rfl ⟨_, rfl, Zk.nought _ _, H9.out.2⟩

theorem gparse_C1 {z0 o at_ n d N D M E K : Int} (s : ByteArray) (hl : s.size <= 65536) (C0 : ∀ V : World, Calls Tryz.prog 24 #[.int .i64 0, .int .i64 0] V (Zo V.heap.size V z0 o z0 o)) (fr : ByteArray) (ha : at_ <= 0) (C1 : ∀ V : World, Calls Tryz.prog 25 #[.string s, .string ⟨#[105]⟩] V fun e w' => e = .returned (.tuple #[.string fr, .bool true]) /\ Below V.heap.size V w') (C2 : ∀ V : World, Lib.Utf8Tabs 2 3 V -> Calls Tryz.prog 26 #[.string fr, .string ⟨#[43, 45]⟩] V fun e w' => e = .returned (.int .i64 at_) /\ Below V.heap.size V w') (C3 : ∀ V : World, Calls Tryz.prog 28 #[.string fr] V (ZF V n d true)) (C9 : Y5 z0 o n d N D M E K) (w : World)  (hu : Lib.Utf8Tabs 2 3 w) :
  Calls Tryz.prog 9 #[.string s] w (Zn w.heap.size w N D M E K) := by
 have hz : (s.size : Int) <= 65536 := by omega
 clear hl
 have HU := Hd hu
 clear hu
 have H0 := Hd C0
 have H1 := Hd C1
 have H2 := Hd C2
 have H3 := Hd C3
 have H9 := Hd C9
 clear C0 C1 C2 C3 C9
 go_enter Tryz.func9, Tryz.ntmps9
 go_upto_region 1 with fail
 refine Zy (P := fun W => Code.wp _ _ _ _ W) fun W p0 b0 => ?_
 have PR := Hd (ZX.mk p0)
 have HB := Hd b0
 clear b0 p0
 go_wp2_with fail
 refine (H0.out W).mono ?_
 rintro e wx1 ⟨v, rfl, hI, hb⟩
 have hlt := (PR.out.below hb).blk.lt
 have hi := hI.in_
 obtain ⟨Az1, cz1, Az2, cz2, Az3, cz3, Az4, cz4, rfl, -⟩ := hI.form
 have HS_z := Hd HB.out.size
 have ha := (Below.refl wx1.heap.size wx1).alloc (Nat.le_refl _) (.cells #[.bool (decide (z0 < 0)), .slice Az1 (Za z0.natAbs).length cz1, .bool (decide (o < 0)), .slice Az2 (Za o.natAbs).length cz2, .bool (decide (z0 < 0)), .slice Az3 (Za z0.natAbs).length cz3, .bool (decide (o < 0)), .slice Az4 (Za o.natAbs).length cz4] 28)
 have hq := ZX.new wx1 28 (.bool (decide (z0 < 0))) (.slice Az1 (Za z0.natAbs).length cz1) (.bool (decide (o < 0))) (.slice Az2 (Za o.natAbs).length cz2) (.bool (decide (z0 < 0))) (.slice Az3 (Za z0.natAbs).length cz3) (.bool (decide (o < 0))) (.slice Az4 (Za o.natAbs).length cz4)
 have hi := hi.below ha
 have ho := hI.below ha
 have PR := Hd (PR.out.below hb)
 have HB := Hd (Zb HB.out hb)
 have PR := Hd (PR.out.below ha)
 have HB := Hd (Zb HB.out ha)
 go_upto_region 4 with fail
 obtain ⟨wy1, E⟩ : ∃ W, W = wx1.alloc (.cells #[.bool (decide (z0 < 0)), .slice Az1 (Za z0.natAbs).length cz1, .bool (decide (o < 0)), .slice Az2 (Za o.natAbs).length cz2, .bool (decide (z0 < 0)), .slice Az3 (Za z0.natAbs).length cz3, .bool (decide (o < 0)), .slice Az4 (Za o.natAbs).length cz4] 28) := ⟨_, rfl⟩
 obtain ⟨b_z, hbq⟩ : ∃ q, q = wx1.heap.size := ⟨_, rfl⟩
 rw [<- E] at hi ho PR HB
 rw [<- E, <- hbq] at hq ⊢
 have P_z := Hd hq
 have O_z := Hd hi
 have Q_z := Hd ho
 clear ho
 have N_z := Hd (show w.heap.size < b_z by rw [hbq]; exact hlt)
 clear hlt
 clear hI hi hb ha hq hbq E
 have O_re := Hd (Q_z.out.parts.1.base HS_z.out)
 have O_im := Hd (Q_z.out.parts.2.base HS_z.out)
 clear Q_z HS_z O_z
 go_wp2_with fail
 refine (H1.out wy1).mono ?_
 rintro e wx2 ⟨rfl, hb⟩
 have P_z := Hd (P_z.out.below hb)
 have PR := Hd (PR.out.below hb)
 have O_re := Hd (O_re.out.below hb)
 have O_im := Hd (O_im.out.below hb)
 have HB := Hd (Zb HB.out hb)
 clear hb
 go_wp2_with fail
 refine (H2.out wx2 (Utf8Tabs_below HU.out HB.out)).mono ?_
 rintro e wx3 ⟨rfl, hb⟩
 have P_z := Hd (P_z.out.below hb)
 have PR := Hd (PR.out.below hb)
 have O_re := Hd (O_re.out.below hb)
 have O_im := Hd (O_im.out.below hb)
 have HB := Hd (Zb HB.out hb)
 clear hb
 go_wp2_with fail
 have HS1 := Hd HB.out.size
 have T_re := Hd (fun g h => (O_re.out.mine g h).2)
 refine (H3.out wx3).mono ?_
 rintro e wx4 ⟨v, rfl, hI, hb⟩
 obtain ⟨Ab1, cb1, Ab2, cb2, rfl, -⟩ := hI.form
 have P_z := Hd (P_z.out.below hb)
 have PR := Hd (PR.out.below hb)
 have O_re := Hd (O_re.out.below hb)
 have HB := Hd (Zb HB.out hb)
 obtain ⟨l_z, z_0, z_1, z_2, z_3, z_4, z_5, z_6, z_7⟩ := P_z.out.facts
 obtain ⟨f0, f1, f2, f3, f4, f5, f6, f7⟩ := P_z.out.free
 have pz := P_z.out.im_ (.bool (decide (n < 0))) (.slice Ab1 (Za n.natAbs).length cb1) (.bool (decide (d < 0))) (.slice Ab2 (Za d.natAbs).length cb2)
 have pr := PR.out.far (ZJ wx4 b_z (.bool (decide (n < 0))) (.slice Ab1 (Za n.natAbs).length cb1) (.bool (decide (d < 0))) (.slice Ab2 (Za d.natAbs).length cb2)) (by have := N_z.out; omega)
 have hb4 := XJ HB.out (show w.heap.size <= b_z by have := N_z.out; omega) (.bool (decide (n < 0))) (.slice Ab1 (Za n.natAbs).length cb1) (.bool (decide (d < 0))) (.slice Ab2 (Za d.natAbs).length cb2)
 have q_O_re := O_re.out.other P_z.out.blk (by decide) (ZJ wx4 b_z (.bool (decide (n < 0))) (.slice Ab1 (Za n.natAbs).length cb1) (.bool (decide (d < 0))) (.slice Ab2 (Za d.natAbs).length cb2))
 have q_O_im := Ze.other (hI) P_z.out.blk (by decide) (ZJ wx4 b_z (.bool (decide (n < 0))) (.slice Ab1 (Za n.natAbs).length cb1) (.bool (decide (d < 0))) (.slice Ab2 (Za d.natAbs).length cb2))
 go_upto_region 19 with fail
 obtain ⟨wh4_1, E⟩ : ∃ Y, Y = ((((wx4.setCell ⟨b_z, 4, none⟩ (.bool (decide (n < 0)))).setCell ⟨b_z, 5, none⟩ (.slice Ab1 (Za n.natAbs).length cb1)).setCell ⟨b_z, 6, none⟩ (.bool (decide (d < 0)))).setCell ⟨b_z, 7, none⟩ (.slice Ab2 (Za d.natAbs).length cb2)) := ⟨_, rfl⟩
 rw [<- E] at pz pr hb4 q_O_re q_O_im ⊢
 clear l_z z_0 z_1 z_2 z_3 z_4 z_5 z_6 z_7 f0 f1 f2 f3 f4 f5 f6 f7 E
 clear hI hb
 have P_z := Hd pz
 have PR := Hd pr
 have HB := Hd hb4
 have O_re := Hd q_O_re
 have O_im := Hd q_O_im
 clear pz pr hb4 q_O_re q_O_im
 obtain ⟨l_z, z_0, z_1, z_2, z_3, z_4, z_5, z_6, z_7⟩ := P_z.out.facts
 go_wp2_with fail
 refine (H9.out wh4_1 w.heap.size _ HB.out.size (Zk.mk_up O_re.out O_im.out HS1.out T_re.out)).mono ?_
 rintro e w9 ⟨v, rfl, hI, hb⟩
 obtain ⟨A6, c6, A7, c7, A8, c8, A9, c9, rfl, -⟩ := hI.form
 have pr := PR.out.below hb
 have hb9 := Zb HB.out hb
 obtain ⟨l_r, r0, r1, r2, r3, r4, r5, r6, r7⟩ := pr.facts
 obtain ⟨f0, f1, f2, f3, f4, f5, f6, f7⟩ := pr.free
 have HF := Hd (Jb hI pr hb9 (show w.heap.size <= w.heap.size by omega) (by decide))
 clear hb hb9 pr hI l_z z_0 z_1 z_2 z_3 z_4 z_5 z_6 z_7
 go_wp2_with fail
 obtain ⟨_, k0, k1, k2, k3, k4, k5, k6, k7⟩ := HF.out.1.facts
 exact bodyPost_ret (by simp [results, Tryz.results9, go_sem, k0, k1, k2, k3, k4, k5, k6, k7]) rfl ⟨_, rfl, HF.out.2.2, HF.out.2.1⟩

theorem gparse_D0 {z0 o : Int} (s : ByteArray) (hl : s.size <= 65536) (C0 : ∀ V : World, Calls Tryz.prog 24 #[.int .i64 0, .int .i64 0] V (Zo V.heap.size V z0 o z0 o)) (fr rest : ByteArray) (k : Nat) (pl : Bool) (b2 : Bool) (h0 : 0 < k) (hk : k <= fr.size) (hf : fr.size <= 65536) (C1 : ∀ V : World, Calls Tryz.prog 25 #[.string s, .string ⟨#[105]⟩] V fun e w' => e = .returned (.tuple #[.string fr, .bool true]) /\ Below V.heap.size V w') (C2 : ∀ V : World, Lib.Utf8Tabs 2 3 V -> Calls Tryz.prog 26 #[.string fr, .string ⟨#[43, 45]⟩] V fun e w' => e = .returned (.int .i64 (k : Int)) /\ Below V.heap.size V w') (C3 : ∀ V : World, Calls Tryz.prog 27 #[.string (fr.extract 0 k)] V (YP V false)) (C5 : ∀ V : World, Calls Tryz.prog 29 #[.string (fr.extract k fr.size), .string ⟨#[43]⟩] V fun e w' => e = .returned (.tuple #[.string rest, .bool pl]) /\ Below V.heap.size V w') (C6 : ∀ V : World, Calls Tryz.prog 28 #[.string rest] V (YP V b2)) (w : World)  (hu : Lib.Utf8Tabs 2 3 w) :
  Calls Tryz.prog 9 #[.string s] w (Zn w.heap.size w 0 0 0 0 5) := by
 have hz : (s.size : Int) <= 65536 := by omega
 clear hl
 have HU := Hd hu
 have a1 : (0 : Int) < (k : Int) := by omega
 have a2 : ¬ (k : Int) <= 0 := by omega
 have a3 : (0 : Int) <= (k : Int) := by omega
 have a4 : (k : Int) <= (fr.size : Int) := by omega
 have a5 : (fr.size : Int) <= 65536 := by omega
 clear hu h0 hk hf
 have H0 := Hd C0
 have H1 := Hd C1
 have H2 := Hd C2
 have H3 := Hd C3
 have H5 := Hd C5
 have H6 := Hd C6
 clear C0 C1 C2 C3 C5 C6
 go_enter Tryz.func9, Tryz.ntmps9
 go_upto_region 1 with fail
 refine Zy (P := fun W => Code.wp _ _ _ _ W) fun W p0 b0 => ?_
 have PR := Hd (ZX.mk p0)
 have HB := Hd b0
 clear b0 p0
 go_wp2_with fail
 refine (H0.out W).mono ?_
 rintro e wx1 ⟨v, rfl, hI, hb⟩
 have hlt := (PR.out.below hb).blk.lt
 have hi := hI.in_
 obtain ⟨Az1, cz1, Az2, cz2, Az3, cz3, Az4, cz4, rfl, -⟩ := hI.form
 have HS_z := Hd HB.out.size
 have ha := (Below.refl wx1.heap.size wx1).alloc (Nat.le_refl _) (.cells #[.bool (decide (z0 < 0)), .slice Az1 (Za z0.natAbs).length cz1, .bool (decide (o < 0)), .slice Az2 (Za o.natAbs).length cz2, .bool (decide (z0 < 0)), .slice Az3 (Za z0.natAbs).length cz3, .bool (decide (o < 0)), .slice Az4 (Za o.natAbs).length cz4] 28)
 have hq := ZX.new wx1 28 (.bool (decide (z0 < 0))) (.slice Az1 (Za z0.natAbs).length cz1) (.bool (decide (o < 0))) (.slice Az2 (Za o.natAbs).length cz2) (.bool (decide (z0 < 0))) (.slice Az3 (Za z0.natAbs).length cz3) (.bool (decide (o < 0))) (.slice Az4 (Za o.natAbs).length cz4)
 have hi := hi.below ha
 have ho := hI.below ha
 have PR := Hd (PR.out.below hb)
 have HB := Hd (Zb HB.out hb)
 have PR := Hd (PR.out.below ha)
 have HB := Hd (Zb HB.out ha)
 go_upto_region 4 with fail
 obtain ⟨wy1, E⟩ : ∃ W, W = wx1.alloc (.cells #[.bool (decide (z0 < 0)), .slice Az1 (Za z0.natAbs).length cz1, .bool (decide (o < 0)), .slice Az2 (Za o.natAbs).length cz2, .bool (decide (z0 < 0)), .slice Az3 (Za z0.natAbs).length cz3, .bool (decide (o < 0)), .slice Az4 (Za o.natAbs).length cz4] 28) := ⟨_, rfl⟩
 obtain ⟨b_z, hbq⟩ : ∃ q, q = wx1.heap.size := ⟨_, rfl⟩
 rw [<- E] at hi ho PR HB
 rw [<- E, <- hbq] at hq ⊢
 have P_z := Hd hq
 have O_z := Hd hi
 have Q_z := Hd ho
 clear ho
 have N_z := Hd (show w.heap.size < b_z by rw [hbq]; exact hlt)
 clear hlt
 clear hI hi hb ha hq hbq E
 have O_re := Hd (Q_z.out.parts.1.base HS_z.out)
 have O_im := Hd (Q_z.out.parts.2.base HS_z.out)
 clear Q_z HS_z O_z
 go_wp2_with fail
 refine (H1.out wy1).mono ?_
 rintro e wx2 ⟨rfl, hb⟩
 have P_z := Hd (P_z.out.below hb)
 have PR := Hd (PR.out.below hb)
 have O_re := Hd (O_re.out.below hb)
 have O_im := Hd (O_im.out.below hb)
 have HB := Hd (Zb HB.out hb)
 clear hb
 go_wp2_with fail
 refine (H2.out wx2 (Utf8Tabs_below HU.out HB.out)).mono ?_
 rintro e wx3 ⟨rfl, hb⟩
 have P_z := Hd (P_z.out.below hb)
 have PR := Hd (PR.out.below hb)
 have O_re := Hd (O_re.out.below hb)
 have O_im := Hd (O_im.out.below hb)
 have HB := Hd (Zb HB.out hb)
 clear hb
 clear O_im
 clear O_re
 go_wp2_with fail
 refine (H3.out wx3).mono ?_
 rintro e wx4 ⟨n, d, v, rfl, hI, hb⟩
 obtain ⟨Aa1, ca1, Aa2, ca2, rfl, -⟩ := hI.form
 have P_z := Hd (P_z.out.below hb)
 have PR := Hd (PR.out.below hb)
 have HB := Hd (Zb HB.out hb)
 obtain ⟨l_z, z_0, z_1, z_2, z_3, z_4, z_5, z_6, z_7⟩ := P_z.out.facts
 obtain ⟨f0, f1, f2, f3, f4, f5, f6, f7⟩ := P_z.out.free
 have pz := P_z.out.re_ (.bool (decide (n < 0))) (.slice Aa1 (Za n.natAbs).length ca1) (.bool (decide (d < 0))) (.slice Aa2 (Za d.natAbs).length ca2)
 have pr := PR.out.far (ZY wx4 b_z (.bool (decide (n < 0))) (.slice Aa1 (Za n.natAbs).length ca1) (.bool (decide (d < 0))) (.slice Aa2 (Za d.natAbs).length ca2)) (by have := N_z.out; omega)
 have hb4 := Yc HB.out (show w.heap.size <= b_z by have := N_z.out; omega) (.bool (decide (n < 0))) (.slice Aa1 (Za n.natAbs).length ca1) (.bool (decide (d < 0))) (.slice Aa2 (Za d.natAbs).length ca2)
 go_upto_region 11 with fail
 obtain ⟨wh4_0, E⟩ : ∃ Y, Y = ((((wx4.setCell ⟨b_z, 0, none⟩ (.bool (decide (n < 0)))).setCell ⟨b_z, 1, none⟩ (.slice Aa1 (Za n.natAbs).length ca1)).setCell ⟨b_z, 2, none⟩ (.bool (decide (d < 0)))).setCell ⟨b_z, 3, none⟩ (.slice Aa2 (Za d.natAbs).length ca2)) := ⟨_, rfl⟩
 rw [<- E] at pz pr hb4  ⊢
 clear l_z z_0 z_1 z_2 z_3 z_4 z_5 z_6 z_7 f0 f1 f2 f3 f4 f5 f6 f7 E
 clear hI hb
 have P_z := Hd pz
 have PR := Hd pr
 have HB := Hd hb4
 clear pz pr hb4 
 go_wp2_with fail
 refine (H5.out wh4_0).mono ?_
 rintro e wx5 ⟨rfl, hb⟩
 have P_z := Hd (P_z.out.below hb)
 have PR := Hd (PR.out.below hb)
 have HB := Hd (Zb HB.out hb)
 clear hb
 go_wp2_with fail
 refine (H6.out wx5).mono ?_
 rintro e wx6 ⟨m, f, v, rfl, hI, hb⟩
 obtain ⟨Ab1, cb1, Ab2, cb2, rfl, -⟩ := hI.form
 have P_z := Hd (P_z.out.below hb)
 have PR := Hd (PR.out.below hb)
 have HB := Hd (Zb HB.out hb)
 obtain ⟨l_z, z_0, z_1, z_2, z_3, z_4, z_5, z_6, z_7⟩ := P_z.out.facts
 obtain ⟨f0, f1, f2, f3, f4, f5, f6, f7⟩ := P_z.out.free
 have pz := P_z.out.im_ (.bool (decide (m < 0))) (.slice Ab1 (Za m.natAbs).length cb1) (.bool (decide (f < 0))) (.slice Ab2 (Za f.natAbs).length cb2)
 have pr := PR.out.far (ZJ wx6 b_z (.bool (decide (m < 0))) (.slice Ab1 (Za m.natAbs).length cb1) (.bool (decide (f < 0))) (.slice Ab2 (Za f.natAbs).length cb2)) (by have := N_z.out; omega)
 have hb4 := XJ HB.out (show w.heap.size <= b_z by have := N_z.out; omega) (.bool (decide (m < 0))) (.slice Ab1 (Za m.natAbs).length cb1) (.bool (decide (f < 0))) (.slice Ab2 (Za f.natAbs).length cb2)
 go_upto_region 14 with fail
 obtain ⟨wh6_1, E⟩ : ∃ Y, Y = ((((wx6.setCell ⟨b_z, 4, none⟩ (.bool (decide (m < 0)))).setCell ⟨b_z, 5, none⟩ (.slice Ab1 (Za m.natAbs).length cb1)).setCell ⟨b_z, 6, none⟩ (.bool (decide (f < 0)))).setCell ⟨b_z, 7, none⟩ (.slice Ab2 (Za f.natAbs).length cb2)) := ⟨_, rfl⟩
 rw [<- E] at pz pr hb4  ⊢
 clear l_z z_0 z_1 z_2 z_3 z_4 z_5 z_6 z_7 f0 f1 f2 f3 f4 f5 f6 f7 E
 clear hI hb
 have P_z := Hd pz
 have PR := Hd pr
 have HB := Hd hb4
 clear pz pr hb4 
 obtain ⟨l_r, r0, r1, r2, r3, r4, r5, r6, r7⟩ := PR.out.facts
 obtain ⟨f0, f1, f2, f3, f4, f5, f6, f7⟩ := PR.out.free
 have H9 := Hd (gzero PR.out HB.out (show w.heap.size <= w.heap.size by omega))
 go_wp2_with fail
 obtain ⟨_, k0, k1, k2, k3, k4, k5, k6, k7⟩ := H9.out.1.facts
 exact bodyPost_ret (by simp [results, Tryz.results9, go_sem, k0, k1, k2, k3, k4, k5, k6, k7]) rfl ⟨_, rfl, Zk.nought _ _, H9.out.2⟩

theorem gparse_D1 {z0 o n d s0 : Int} (s : ByteArray) (hl : s.size <= 65536) (C0 : ∀ V : World, Calls Tryz.prog 24 #[.int .i64 0, .int .i64 0] V (Zo V.heap.size V z0 o z0 o)) (fr rest : ByteArray) (k : Nat) (pl : Bool) (b2 : Bool) (h0 : 0 < k) (hk : k <= fr.size) (hf : fr.size <= 65536) (C1 : ∀ V : World, Calls Tryz.prog 25 #[.string s, .string ⟨#[105]⟩] V fun e w' => e = .returned (.tuple #[.string fr, .bool true]) /\ Below V.heap.size V w') (C2 : ∀ V : World, Lib.Utf8Tabs 2 3 V -> Calls Tryz.prog 26 #[.string fr, .string ⟨#[43, 45]⟩] V fun e w' => e = .returned (.int .i64 (k : Int)) /\ Below V.heap.size V w') (C3 : ∀ V : World, Calls Tryz.prog 27 #[.string (fr.extract 0 k)] V (ZF V n d true)) (C4 : Yg 21 n d s0) (z : (s0 != 0) = false) (C5 : ∀ V : World, Calls Tryz.prog 29 #[.string (fr.extract k fr.size), .string ⟨#[43]⟩] V fun e w' => e = .returned (.tuple #[.string rest, .bool pl]) /\ Below V.heap.size V w') (C6 : ∀ V : World, Calls Tryz.prog 28 #[.string rest] V (YP V b2)) (w : World)  (hu : Lib.Utf8Tabs 2 3 w) :
  Calls Tryz.prog 9 #[.string s] w (Zn w.heap.size w 0 0 0 0 5) := by
 have hz : (s.size : Int) <= 65536 := by omega
 clear hl
 have HU := Hd hu
 have a1 : (0 : Int) < (k : Int) := by omega
 have a2 : ¬ (k : Int) <= 0 := by omega
 have a3 : (0 : Int) <= (k : Int) := by omega
 have a4 : (k : Int) <= (fr.size : Int) := by omega
 have a5 : (fr.size : Int) <= 65536 := by omega
 clear hu h0 hk hf
 have H0 := Hd C0
 have H1 := Hd C1
 have H2 := Hd C2
 have H3 := Hd C3
 have H4 := Hd C4
 have H5 := Hd C5
 have H6 := Hd C6
 clear C0 C1 C2 C3 C4 C5 C6
 go_enter Tryz.func9, Tryz.ntmps9
 go_upto_region 1 with fail
 refine Zy (P := fun W => Code.wp _ _ _ _ W) fun W p0 b0 => ?_
 have PR := Hd (ZX.mk p0)
 have HB := Hd b0
 clear b0 p0
 go_wp2_with fail
 refine (H0.out W).mono ?_
 rintro e wx1 ⟨v, rfl, hI, hb⟩
 have hlt := (PR.out.below hb).blk.lt
 have hi := hI.in_
 obtain ⟨Az1, cz1, Az2, cz2, Az3, cz3, Az4, cz4, rfl, -⟩ := hI.form
 have HS_z := Hd HB.out.size
 have ha := (Below.refl wx1.heap.size wx1).alloc (Nat.le_refl _) (.cells #[.bool (decide (z0 < 0)), .slice Az1 (Za z0.natAbs).length cz1, .bool (decide (o < 0)), .slice Az2 (Za o.natAbs).length cz2, .bool (decide (z0 < 0)), .slice Az3 (Za z0.natAbs).length cz3, .bool (decide (o < 0)), .slice Az4 (Za o.natAbs).length cz4] 28)
 have hq := ZX.new wx1 28 (.bool (decide (z0 < 0))) (.slice Az1 (Za z0.natAbs).length cz1) (.bool (decide (o < 0))) (.slice Az2 (Za o.natAbs).length cz2) (.bool (decide (z0 < 0))) (.slice Az3 (Za z0.natAbs).length cz3) (.bool (decide (o < 0))) (.slice Az4 (Za o.natAbs).length cz4)
 have hi := hi.below ha
 have ho := hI.below ha
 have PR := Hd (PR.out.below hb)
 have HB := Hd (Zb HB.out hb)
 have PR := Hd (PR.out.below ha)
 have HB := Hd (Zb HB.out ha)
 go_upto_region 4 with fail
 obtain ⟨wy1, E⟩ : ∃ W, W = wx1.alloc (.cells #[.bool (decide (z0 < 0)), .slice Az1 (Za z0.natAbs).length cz1, .bool (decide (o < 0)), .slice Az2 (Za o.natAbs).length cz2, .bool (decide (z0 < 0)), .slice Az3 (Za z0.natAbs).length cz3, .bool (decide (o < 0)), .slice Az4 (Za o.natAbs).length cz4] 28) := ⟨_, rfl⟩
 obtain ⟨b_z, hbq⟩ : ∃ q, q = wx1.heap.size := ⟨_, rfl⟩
 rw [<- E] at hi ho PR HB
 rw [<- E, <- hbq] at hq ⊢
 have P_z := Hd hq
 have O_z := Hd hi
 have Q_z := Hd ho
 clear ho
 have N_z := Hd (show w.heap.size < b_z by rw [hbq]; exact hlt)
 clear hlt
 clear hI hi hb ha hq hbq E
 have O_re := Hd (Q_z.out.parts.1.base HS_z.out)
 have O_im := Hd (Q_z.out.parts.2.base HS_z.out)
 clear Q_z HS_z O_z
 go_wp2_with fail
 refine (H1.out wy1).mono ?_
 rintro e wx2 ⟨rfl, hb⟩
 have P_z := Hd (P_z.out.below hb)
 have PR := Hd (PR.out.below hb)
 have O_re := Hd (O_re.out.below hb)
 have O_im := Hd (O_im.out.below hb)
 have HB := Hd (Zb HB.out hb)
 clear hb
 go_wp2_with fail
 refine (H2.out wx2 (Utf8Tabs_below HU.out HB.out)).mono ?_
 rintro e wx3 ⟨rfl, hb⟩
 have P_z := Hd (P_z.out.below hb)
 have PR := Hd (PR.out.below hb)
 have O_re := Hd (O_re.out.below hb)
 have O_im := Hd (O_im.out.below hb)
 have HB := Hd (Zb HB.out hb)
 clear hb
 clear O_im
 go_wp2_with fail
 have HS0 := Hd HB.out.size
 refine (H3.out wx3).mono ?_
 rintro e wx4 ⟨v, rfl, hI, hb⟩
 obtain ⟨Aa1, ca1, Aa2, ca2, rfl, -⟩ := hI.form
 have P_z := Hd (P_z.out.below hb)
 have PR := Hd (PR.out.below hb)
 have HB := Hd (Zb HB.out hb)
 obtain ⟨l_z, z_0, z_1, z_2, z_3, z_4, z_5, z_6, z_7⟩ := P_z.out.facts
 obtain ⟨f0, f1, f2, f3, f4, f5, f6, f7⟩ := P_z.out.free
 have pz := P_z.out.re_ (.bool (decide (n < 0))) (.slice Aa1 (Za n.natAbs).length ca1) (.bool (decide (d < 0))) (.slice Aa2 (Za d.natAbs).length ca2)
 have pr := PR.out.far (ZY wx4 b_z (.bool (decide (n < 0))) (.slice Aa1 (Za n.natAbs).length ca1) (.bool (decide (d < 0))) (.slice Aa2 (Za d.natAbs).length ca2)) (by have := N_z.out; omega)
 have hb4 := Yc HB.out (show w.heap.size <= b_z by have := N_z.out; omega) (.bool (decide (n < 0))) (.slice Aa1 (Za n.natAbs).length ca1) (.bool (decide (d < 0))) (.slice Aa2 (Za d.natAbs).length ca2)
 have q_O_re := Ze.other (hI) P_z.out.blk (by decide) (ZY wx4 b_z (.bool (decide (n < 0))) (.slice Aa1 (Za n.natAbs).length ca1) (.bool (decide (d < 0))) (.slice Aa2 (Za d.natAbs).length ca2))
 go_upto_region 11 with fail
 obtain ⟨wh4_0, E⟩ : ∃ Y, Y = ((((wx4.setCell ⟨b_z, 0, none⟩ (.bool (decide (n < 0)))).setCell ⟨b_z, 1, none⟩ (.slice Aa1 (Za n.natAbs).length ca1)).setCell ⟨b_z, 2, none⟩ (.bool (decide (d < 0)))).setCell ⟨b_z, 3, none⟩ (.slice Aa2 (Za d.natAbs).length ca2)) := ⟨_, rfl⟩
 rw [<- E] at pz pr hb4 q_O_re ⊢
 clear l_z z_0 z_1 z_2 z_3 z_4 z_5 z_6 z_7 f0 f1 f2 f3 f4 f5 f6 f7 E
 clear hI hb
 have P_z := Hd pz
 have PR := Hd pr
 have HB := Hd hb4
 have O_re := Hd q_O_re
 clear pz pr hb4 q_O_re
 obtain ⟨l_z, z_0, z_1, z_2, z_3, z_4, z_5, z_6, z_7⟩ := P_z.out.facts
 go_wp2_with fail
 refine (H4.out wh4_0 _ O_re.out.at_).mono ?_
 rintro e wx5 ⟨rfl, hb⟩
 clear l_z z_0 z_1 z_2 z_3 z_4 z_5 z_6 z_7
 have P_z := Hd (P_z.out.below hb)
 have PR := Hd (PR.out.below hb)
 have O_re := Hd (O_re.out.below hb)
 have HB := Hd (Zb HB.out hb)
 clear hb
 go_wp2_with fail
 refine (H5.out wx5).mono ?_
 rintro e wx6 ⟨rfl, hb⟩
 have P_z := Hd (P_z.out.below hb)
 have PR := Hd (PR.out.below hb)
 have O_re := Hd (O_re.out.below hb)
 have HB := Hd (Zb HB.out hb)
 clear hb
 go_wp2_with fail
 refine (H6.out wx6).mono ?_
 rintro e wx7 ⟨m, f, v, rfl, hI, hb⟩
 obtain ⟨Ab1, cb1, Ab2, cb2, rfl, -⟩ := hI.form
 have P_z := Hd (P_z.out.below hb)
 have PR := Hd (PR.out.below hb)
 have O_re := Hd (O_re.out.below hb)
 have HB := Hd (Zb HB.out hb)
 obtain ⟨l_z, z_0, z_1, z_2, z_3, z_4, z_5, z_6, z_7⟩ := P_z.out.facts
 obtain ⟨f0, f1, f2, f3, f4, f5, f6, f7⟩ := P_z.out.free
 have pz := P_z.out.im_ (.bool (decide (m < 0))) (.slice Ab1 (Za m.natAbs).length cb1) (.bool (decide (f < 0))) (.slice Ab2 (Za f.natAbs).length cb2)
 have pr := PR.out.far (ZJ wx7 b_z (.bool (decide (m < 0))) (.slice Ab1 (Za m.natAbs).length cb1) (.bool (decide (f < 0))) (.slice Ab2 (Za f.natAbs).length cb2)) (by have := N_z.out; omega)
 have hb4 := XJ HB.out (show w.heap.size <= b_z by have := N_z.out; omega) (.bool (decide (m < 0))) (.slice Ab1 (Za m.natAbs).length cb1) (.bool (decide (f < 0))) (.slice Ab2 (Za f.natAbs).length cb2)
 have q_O_re := O_re.out.other P_z.out.blk (by decide) (ZJ wx7 b_z (.bool (decide (m < 0))) (.slice Ab1 (Za m.natAbs).length cb1) (.bool (decide (f < 0))) (.slice Ab2 (Za f.natAbs).length cb2))
 go_upto_region 14 with fail
 obtain ⟨wh7_1, E⟩ : ∃ Y, Y = ((((wx7.setCell ⟨b_z, 4, none⟩ (.bool (decide (m < 0)))).setCell ⟨b_z, 5, none⟩ (.slice Ab1 (Za m.natAbs).length cb1)).setCell ⟨b_z, 6, none⟩ (.bool (decide (f < 0)))).setCell ⟨b_z, 7, none⟩ (.slice Ab2 (Za f.natAbs).length cb2)) := ⟨_, rfl⟩
 rw [<- E] at pz pr hb4 q_O_re ⊢
 clear l_z z_0 z_1 z_2 z_3 z_4 z_5 z_6 z_7 f0 f1 f2 f3 f4 f5 f6 f7 E
 clear hI hb
 have P_z := Hd pz
 have PR := Hd pr
 have HB := Hd hb4
 have O_re := Hd q_O_re
 clear pz pr hb4 q_O_re
 obtain ⟨l_r, r0, r1, r2, r3, r4, r5, r6, r7⟩ := PR.out.facts
 obtain ⟨f0, f1, f2, f3, f4, f5, f6, f7⟩ := PR.out.free
 have H9 := Hd (gzero PR.out HB.out (show w.heap.size <= w.heap.size by omega))
 go_wp2_with fail
 obtain ⟨_, k0, k1, k2, k3, k4, k5, k6, k7⟩ := H9.out.1.facts
 exact bodyPost_ret (by simp [results, Tryz.results9, go_sem, k0, k1, k2, k3, k4, k5, k6, k7]) rfl ⟨_, rfl, Zk.nought _ _, H9.out.2⟩

theorem gparse_D2 {z0 o n d s0 : Int} (s : ByteArray) (hl : s.size <= 65536) (C0 : ∀ V : World, Calls Tryz.prog 24 #[.int .i64 0, .int .i64 0] V (Zo V.heap.size V z0 o z0 o)) (fr rest : ByteArray) (k : Nat) (pl : Bool) (h0 : 0 < k) (hk : k <= fr.size) (hf : fr.size <= 65536) (C1 : ∀ V : World, Calls Tryz.prog 25 #[.string s, .string ⟨#[105]⟩] V fun e w' => e = .returned (.tuple #[.string fr, .bool true]) /\ Below V.heap.size V w') (C2 : ∀ V : World, Lib.Utf8Tabs 2 3 V -> Calls Tryz.prog 26 #[.string fr, .string ⟨#[43, 45]⟩] V fun e w' => e = .returned (.int .i64 (k : Int)) /\ Below V.heap.size V w') (C3 : ∀ V : World, Calls Tryz.prog 27 #[.string (fr.extract 0 k)] V (ZF V n d true)) (C4 : Yg 21 n d s0) (z : (s0 != 0) = true) (C5 : ∀ V : World, Calls Tryz.prog 29 #[.string (fr.extract k fr.size), .string ⟨#[43]⟩] V fun e w' => e = .returned (.tuple #[.string rest, .bool pl]) /\ Below V.heap.size V w') (C6 : ∀ V : World, Calls Tryz.prog 28 #[.string rest] V (YP V false)) (w : World)  (hu : Lib.Utf8Tabs 2 3 w) :
  Calls Tryz.prog 9 #[.string s] w (Zn w.heap.size w 0 0 0 0 5) := by
 have hz : (s.size : Int) <= 65536 := by omega
 clear hl
 have HU := Hd hu
 have a1 : (0 : Int) < (k : Int) := by omega
 have a2 : ¬ (k : Int) <= 0 := by omega
 have a3 : (0 : Int) <= (k : Int) := by omega
 have a4 : (k : Int) <= (fr.size : Int) := by omega
 have a5 : (fr.size : Int) <= 65536 := by omega
 clear hu h0 hk hf
 have H0 := Hd C0
 have H1 := Hd C1
 have H2 := Hd C2
 have H3 := Hd C3
 have H4 := Hd C4
 have H5 := Hd C5
 have H6 := Hd C6
 clear C0 C1 C2 C3 C4 C5 C6
 go_enter Tryz.func9, Tryz.ntmps9
 go_upto_region 1 with fail
 refine Zy (P := fun W => Code.wp _ _ _ _ W) fun W p0 b0 => ?_
 have PR := Hd (ZX.mk p0)
 have HB := Hd b0
 clear b0 p0
 go_wp2_with fail
 refine (H0.out W).mono ?_
 rintro e wx1 ⟨v, rfl, hI, hb⟩
 have hlt := (PR.out.below hb).blk.lt
 have hi := hI.in_
 obtain ⟨Az1, cz1, Az2, cz2, Az3, cz3, Az4, cz4, rfl, -⟩ := hI.form
 have HS_z := Hd HB.out.size
 have ha := (Below.refl wx1.heap.size wx1).alloc (Nat.le_refl _) (.cells #[.bool (decide (z0 < 0)), .slice Az1 (Za z0.natAbs).length cz1, .bool (decide (o < 0)), .slice Az2 (Za o.natAbs).length cz2, .bool (decide (z0 < 0)), .slice Az3 (Za z0.natAbs).length cz3, .bool (decide (o < 0)), .slice Az4 (Za o.natAbs).length cz4] 28)
 have hq := ZX.new wx1 28 (.bool (decide (z0 < 0))) (.slice Az1 (Za z0.natAbs).length cz1) (.bool (decide (o < 0))) (.slice Az2 (Za o.natAbs).length cz2) (.bool (decide (z0 < 0))) (.slice Az3 (Za z0.natAbs).length cz3) (.bool (decide (o < 0))) (.slice Az4 (Za o.natAbs).length cz4)
 have hi := hi.below ha
 have ho := hI.below ha
 have PR := Hd (PR.out.below hb)
 have HB := Hd (Zb HB.out hb)
 have PR := Hd (PR.out.below ha)
 have HB := Hd (Zb HB.out ha)
 go_upto_region 4 with fail
 obtain ⟨wy1, E⟩ : ∃ W, W = wx1.alloc (.cells #[.bool (decide (z0 < 0)), .slice Az1 (Za z0.natAbs).length cz1, .bool (decide (o < 0)), .slice Az2 (Za o.natAbs).length cz2, .bool (decide (z0 < 0)), .slice Az3 (Za z0.natAbs).length cz3, .bool (decide (o < 0)), .slice Az4 (Za o.natAbs).length cz4] 28) := ⟨_, rfl⟩
 obtain ⟨b_z, hbq⟩ : ∃ q, q = wx1.heap.size := ⟨_, rfl⟩
 rw [<- E] at hi ho PR HB
 rw [<- E, <- hbq] at hq ⊢
 have P_z := Hd hq
 have O_z := Hd hi
 have Q_z := Hd ho
 clear ho
 have N_z := Hd (show w.heap.size < b_z by rw [hbq]; exact hlt)
 clear hlt
 clear hI hi hb ha hq hbq E
 have O_re := Hd (Q_z.out.parts.1.base HS_z.out)
 have O_im := Hd (Q_z.out.parts.2.base HS_z.out)
 clear Q_z HS_z O_z
 go_wp2_with fail
 refine (H1.out wy1).mono ?_
 rintro e wx2 ⟨rfl, hb⟩
 have P_z := Hd (P_z.out.below hb)
 have PR := Hd (PR.out.below hb)
 have O_re := Hd (O_re.out.below hb)
 have O_im := Hd (O_im.out.below hb)
 have HB := Hd (Zb HB.out hb)
 clear hb
 go_wp2_with fail
 refine (H2.out wx2 (Utf8Tabs_below HU.out HB.out)).mono ?_
 rintro e wx3 ⟨rfl, hb⟩
 have P_z := Hd (P_z.out.below hb)
 have PR := Hd (PR.out.below hb)
 have O_re := Hd (O_re.out.below hb)
 have O_im := Hd (O_im.out.below hb)
 have HB := Hd (Zb HB.out hb)
 clear hb
 clear O_im
 go_wp2_with fail
 have HS0 := Hd HB.out.size
 refine (H3.out wx3).mono ?_
 rintro e wx4 ⟨v, rfl, hI, hb⟩
 obtain ⟨Aa1, ca1, Aa2, ca2, rfl, -⟩ := hI.form
 have P_z := Hd (P_z.out.below hb)
 have PR := Hd (PR.out.below hb)
 have HB := Hd (Zb HB.out hb)
 obtain ⟨l_z, z_0, z_1, z_2, z_3, z_4, z_5, z_6, z_7⟩ := P_z.out.facts
 obtain ⟨f0, f1, f2, f3, f4, f5, f6, f7⟩ := P_z.out.free
 have pz := P_z.out.re_ (.bool (decide (n < 0))) (.slice Aa1 (Za n.natAbs).length ca1) (.bool (decide (d < 0))) (.slice Aa2 (Za d.natAbs).length ca2)
 have pr := PR.out.far (ZY wx4 b_z (.bool (decide (n < 0))) (.slice Aa1 (Za n.natAbs).length ca1) (.bool (decide (d < 0))) (.slice Aa2 (Za d.natAbs).length ca2)) (by have := N_z.out; omega)
 have hb4 := Yc HB.out (show w.heap.size <= b_z by have := N_z.out; omega) (.bool (decide (n < 0))) (.slice Aa1 (Za n.natAbs).length ca1) (.bool (decide (d < 0))) (.slice Aa2 (Za d.natAbs).length ca2)
 have q_O_re := Ze.other (hI) P_z.out.blk (by decide) (ZY wx4 b_z (.bool (decide (n < 0))) (.slice Aa1 (Za n.natAbs).length ca1) (.bool (decide (d < 0))) (.slice Aa2 (Za d.natAbs).length ca2))
 go_upto_region 11 with fail
 obtain ⟨wh4_0, E⟩ : ∃ Y, Y = ((((wx4.setCell ⟨b_z, 0, none⟩ (.bool (decide (n < 0)))).setCell ⟨b_z, 1, none⟩ (.slice Aa1 (Za n.natAbs).length ca1)).setCell ⟨b_z, 2, none⟩ (.bool (decide (d < 0)))).setCell ⟨b_z, 3, none⟩ (.slice Aa2 (Za d.natAbs).length ca2)) := ⟨_, rfl⟩
 rw [<- E] at pz pr hb4 q_O_re ⊢
 clear l_z z_0 z_1 z_2 z_3 z_4 z_5 z_6 z_7 f0 f1 f2 f3 f4 f5 f6 f7 E
 clear hI hb
 have P_z := Hd pz
 have PR := Hd pr
 have HB := Hd hb4
 have O_re := Hd q_O_re
 clear pz pr hb4 q_O_re
 obtain ⟨l_z, z_0, z_1, z_2, z_3, z_4, z_5, z_6, z_7⟩ := P_z.out.facts
 go_wp2_with fail
 refine (H4.out wh4_0 _ O_re.out.at_).mono ?_
 rintro e wx5 ⟨rfl, hb⟩
 clear l_z z_0 z_1 z_2 z_3 z_4 z_5 z_6 z_7
 have P_z := Hd (P_z.out.below hb)
 have PR := Hd (PR.out.below hb)
 have O_re := Hd (O_re.out.below hb)
 have HB := Hd (Zb HB.out hb)
 clear hb
 go_wp2_with fail
 refine (H5.out wx5).mono ?_
 rintro e wx6 ⟨rfl, hb⟩
 have P_z := Hd (P_z.out.below hb)
 have PR := Hd (PR.out.below hb)
 have O_re := Hd (O_re.out.below hb)
 have HB := Hd (Zb HB.out hb)
 clear hb
 go_wp2_with fail
 refine (H6.out wx6).mono ?_
 rintro e wx7 ⟨m, f, v, rfl, hI, hb⟩
 obtain ⟨Ab1, cb1, Ab2, cb2, rfl, -⟩ := hI.form
 have P_z := Hd (P_z.out.below hb)
 have PR := Hd (PR.out.below hb)
 have O_re := Hd (O_re.out.below hb)
 have HB := Hd (Zb HB.out hb)
 obtain ⟨l_z, z_0, z_1, z_2, z_3, z_4, z_5, z_6, z_7⟩ := P_z.out.facts
 obtain ⟨f0, f1, f2, f3, f4, f5, f6, f7⟩ := P_z.out.free
 have pz := P_z.out.im_ (.bool (decide (m < 0))) (.slice Ab1 (Za m.natAbs).length cb1) (.bool (decide (f < 0))) (.slice Ab2 (Za f.natAbs).length cb2)
 have pr := PR.out.far (ZJ wx7 b_z (.bool (decide (m < 0))) (.slice Ab1 (Za m.natAbs).length cb1) (.bool (decide (f < 0))) (.slice Ab2 (Za f.natAbs).length cb2)) (by have := N_z.out; omega)
 have hb4 := XJ HB.out (show w.heap.size <= b_z by have := N_z.out; omega) (.bool (decide (m < 0))) (.slice Ab1 (Za m.natAbs).length cb1) (.bool (decide (f < 0))) (.slice Ab2 (Za f.natAbs).length cb2)
 have q_O_re := O_re.out.other P_z.out.blk (by decide) (ZJ wx7 b_z (.bool (decide (m < 0))) (.slice Ab1 (Za m.natAbs).length cb1) (.bool (decide (f < 0))) (.slice Ab2 (Za f.natAbs).length cb2))
 go_upto_region 14 with fail
 obtain ⟨wh7_1, E⟩ : ∃ Y, Y = ((((wx7.setCell ⟨b_z, 4, none⟩ (.bool (decide (m < 0)))).setCell ⟨b_z, 5, none⟩ (.slice Ab1 (Za m.natAbs).length cb1)).setCell ⟨b_z, 6, none⟩ (.bool (decide (f < 0)))).setCell ⟨b_z, 7, none⟩ (.slice Ab2 (Za f.natAbs).length cb2)) := ⟨_, rfl⟩
 rw [<- E] at pz pr hb4 q_O_re ⊢
 clear l_z z_0 z_1 z_2 z_3 z_4 z_5 z_6 z_7 f0 f1 f2 f3 f4 f5 f6 f7 E
 clear hI hb
 have P_z := Hd pz
 have PR := Hd pr
 have HB := Hd hb4
 have O_re := Hd q_O_re
 clear pz pr hb4 q_O_re
 obtain ⟨l_r, r0, r1, r2, r3, r4, r5, r6, r7⟩ := PR.out.facts
 obtain ⟨f0, f1, f2, f3, f4, f5, f6, f7⟩ := PR.out.free
 have H9 := Hd (gzero PR.out HB.out (show w.heap.size <= w.heap.size by omega))
 go_wp2_with fail
 obtain ⟨_, k0, k1, k2, k3, k4, k5, k6, k7⟩ := H9.out.1.facts
 exact bodyPost_ret (by simp [results, Tryz.results9, go_sem, k0, k1, k2, k3, k4, k5, k6, k7]) rfl ⟨_, rfl, Zk.nought _ _, H9.out.2⟩

theorem gparse_D3t {z0 o n d s0 m f s1 : Int} (s : ByteArray) (hl : s.size <= 65536) (C0 : ∀ V : World, Calls Tryz.prog 24 #[.int .i64 0, .int .i64 0] V (Zo V.heap.size V z0 o z0 o)) (fr rest : ByteArray) (k : Nat) (h0 : 0 < k) (hk : k <= fr.size) (hf : fr.size <= 65536) (C1 : ∀ V : World, Calls Tryz.prog 25 #[.string s, .string ⟨#[105]⟩] V fun e w' => e = .returned (.tuple #[.string fr, .bool true]) /\ Below V.heap.size V w') (C2 : ∀ V : World, Lib.Utf8Tabs 2 3 V -> Calls Tryz.prog 26 #[.string fr, .string ⟨#[43, 45]⟩] V fun e w' => e = .returned (.int .i64 (k : Int)) /\ Below V.heap.size V w') (C3 : ∀ V : World, Calls Tryz.prog 27 #[.string (fr.extract 0 k)] V (ZF V n d true)) (C4 : Yg 21 n d s0) (z : (s0 != 0) = true) (C5 : ∀ V : World, Calls Tryz.prog 29 #[.string (fr.extract k fr.size), .string ⟨#[43]⟩] V fun e w' => e = .returned (.tuple #[.string rest, .bool true]) /\ Below V.heap.size V w') (C6 : ∀ V : World, Calls Tryz.prog 28 #[.string rest] V (ZF V m f true)) (C7 : Yg 21 m f s1) (z2 : ¬ 0 < s1) (w : World)  (hu : Lib.Utf8Tabs 2 3 w) :
  Calls Tryz.prog 9 #[.string s] w (Zn w.heap.size w 0 0 0 0 5) := by
 have hz : (s.size : Int) <= 65536 := by omega
 clear hl
 have HU := Hd hu
 have a1 : (0 : Int) < (k : Int) := by omega
 have a2 : ¬ (k : Int) <= 0 := by omega
 have a3 : (0 : Int) <= (k : Int) := by omega
 have a4 : (k : Int) <= (fr.size : Int) := by omega
 have a5 : (fr.size : Int) <= 65536 := by omega
 clear hu h0 hk hf
 have z3 : decide (0 < s1) = false := decide_eq_false z2
 have H0 := Hd C0
 have H1 := Hd C1
 have H2 := Hd C2
 have H3 := Hd C3
 have H4 := Hd C4
 have H5 := Hd C5
 have H6 := Hd C6
 have H7 := Hd C7
 clear C0 C1 C2 C3 C4 C5 C6 C7
 go_enter Tryz.func9, Tryz.ntmps9
 go_upto_region 1 with fail
 refine Zy (P := fun W => Code.wp _ _ _ _ W) fun W p0 b0 => ?_
 have PR := Hd (ZX.mk p0)
 have HB := Hd b0
 clear b0 p0
 go_wp2_with fail
 refine (H0.out W).mono ?_
 rintro e wx1 ⟨v, rfl, hI, hb⟩
 have hlt := (PR.out.below hb).blk.lt
 have hi := hI.in_
 obtain ⟨Az1, cz1, Az2, cz2, Az3, cz3, Az4, cz4, rfl, -⟩ := hI.form
 have HS_z := Hd HB.out.size
 have ha := (Below.refl wx1.heap.size wx1).alloc (Nat.le_refl _) (.cells #[.bool (decide (z0 < 0)), .slice Az1 (Za z0.natAbs).length cz1, .bool (decide (o < 0)), .slice Az2 (Za o.natAbs).length cz2, .bool (decide (z0 < 0)), .slice Az3 (Za z0.natAbs).length cz3, .bool (decide (o < 0)), .slice Az4 (Za o.natAbs).length cz4] 28)
 have hq := ZX.new wx1 28 (.bool (decide (z0 < 0))) (.slice Az1 (Za z0.natAbs).length cz1) (.bool (decide (o < 0))) (.slice Az2 (Za o.natAbs).length cz2) (.bool (decide (z0 < 0))) (.slice Az3 (Za z0.natAbs).length cz3) (.bool (decide (o < 0))) (.slice Az4 (Za o.natAbs).length cz4)
 have hi := hi.below ha
 have ho := hI.below ha
 have PR := Hd (PR.out.below hb)
 have HB := Hd (Zb HB.out hb)
 have PR := Hd (PR.out.below ha)
 have HB := Hd (Zb HB.out ha)
 go_upto_region 4 with fail
 obtain ⟨wy1, E⟩ : ∃ W, W = wx1.alloc (.cells #[.bool (decide (z0 < 0)), .slice Az1 (Za z0.natAbs).length cz1, .bool (decide (o < 0)), .slice Az2 (Za o.natAbs).length cz2, .bool (decide (z0 < 0)), .slice Az3 (Za z0.natAbs).length cz3, .bool (decide (o < 0)), .slice Az4 (Za o.natAbs).length cz4] 28) := ⟨_, rfl⟩
 obtain ⟨b_z, hbq⟩ : ∃ q, q = wx1.heap.size := ⟨_, rfl⟩
 rw [<- E] at hi ho PR HB
 rw [<- E, <- hbq] at hq ⊢
 have P_z := Hd hq
 have O_z := Hd hi
 have Q_z := Hd ho
 clear ho
 have N_z := Hd (show w.heap.size < b_z by rw [hbq]; exact hlt)
 clear hlt
 clear hI hi hb ha hq hbq E
 have O_re := Hd (Q_z.out.parts.1.base HS_z.out)
 have O_im := Hd (Q_z.out.parts.2.base HS_z.out)
 clear Q_z HS_z O_z
 go_wp2_with fail
 refine (H1.out wy1).mono ?_
 rintro e wx2 ⟨rfl, hb⟩
 have P_z := Hd (P_z.out.below hb)
 have PR := Hd (PR.out.below hb)
 have O_re := Hd (O_re.out.below hb)
 have O_im := Hd (O_im.out.below hb)
 have HB := Hd (Zb HB.out hb)
 clear hb
 go_wp2_with fail
 refine (H2.out wx2 (Utf8Tabs_below HU.out HB.out)).mono ?_
 rintro e wx3 ⟨rfl, hb⟩
 have P_z := Hd (P_z.out.below hb)
 have PR := Hd (PR.out.below hb)
 have O_re := Hd (O_re.out.below hb)
 have O_im := Hd (O_im.out.below hb)
 have HB := Hd (Zb HB.out hb)
 clear hb
 clear O_im
 go_wp2_with fail
 have HS0 := Hd HB.out.size
 refine (H3.out wx3).mono ?_
 rintro e wx4 ⟨v, rfl, hI, hb⟩
 obtain ⟨Aa1, ca1, Aa2, ca2, rfl, -⟩ := hI.form
 have P_z := Hd (P_z.out.below hb)
 have PR := Hd (PR.out.below hb)
 have HB := Hd (Zb HB.out hb)
 obtain ⟨l_z, z_0, z_1, z_2, z_3, z_4, z_5, z_6, z_7⟩ := P_z.out.facts
 obtain ⟨f0, f1, f2, f3, f4, f5, f6, f7⟩ := P_z.out.free
 have pz := P_z.out.re_ (.bool (decide (n < 0))) (.slice Aa1 (Za n.natAbs).length ca1) (.bool (decide (d < 0))) (.slice Aa2 (Za d.natAbs).length ca2)
 have pr := PR.out.far (ZY wx4 b_z (.bool (decide (n < 0))) (.slice Aa1 (Za n.natAbs).length ca1) (.bool (decide (d < 0))) (.slice Aa2 (Za d.natAbs).length ca2)) (by have := N_z.out; omega)
 have hb4 := Yc HB.out (show w.heap.size <= b_z by have := N_z.out; omega) (.bool (decide (n < 0))) (.slice Aa1 (Za n.natAbs).length ca1) (.bool (decide (d < 0))) (.slice Aa2 (Za d.natAbs).length ca2)
 have q_O_re := Ze.other (hI) P_z.out.blk (by decide) (ZY wx4 b_z (.bool (decide (n < 0))) (.slice Aa1 (Za n.natAbs).length ca1) (.bool (decide (d < 0))) (.slice Aa2 (Za d.natAbs).length ca2))
 go_upto_region 11 with fail
 obtain ⟨wh4_0, E⟩ : ∃ Y, Y = ((((wx4.setCell ⟨b_z, 0, none⟩ (.bool (decide (n < 0)))).setCell ⟨b_z, 1, none⟩ (.slice Aa1 (Za n.natAbs).length ca1)).setCell ⟨b_z, 2, none⟩ (.bool (decide (d < 0)))).setCell ⟨b_z, 3, none⟩ (.slice Aa2 (Za d.natAbs).length ca2)) := ⟨_, rfl⟩
 rw [<- E] at pz pr hb4 q_O_re ⊢
 clear l_z z_0 z_1 z_2 z_3 z_4 z_5 z_6 z_7 f0 f1 f2 f3 f4 f5 f6 f7 E
 clear hI hb
 have P_z := Hd pz
 have PR := Hd pr
 have HB := Hd hb4
 have O_re := Hd q_O_re
 clear pz pr hb4 q_O_re
 obtain ⟨l_z, z_0, z_1, z_2, z_3, z_4, z_5, z_6, z_7⟩ := P_z.out.facts
 go_wp2_with fail
 refine (H4.out wh4_0 _ O_re.out.at_).mono ?_
 rintro e wx5 ⟨rfl, hb⟩
 clear l_z z_0 z_1 z_2 z_3 z_4 z_5 z_6 z_7
 have P_z := Hd (P_z.out.below hb)
 have PR := Hd (PR.out.below hb)
 have O_re := Hd (O_re.out.below hb)
 have HB := Hd (Zb HB.out hb)
 clear hb
 go_wp2_with fail
 refine (H5.out wx5).mono ?_
 rintro e wx6 ⟨rfl, hb⟩
 have P_z := Hd (P_z.out.below hb)
 have PR := Hd (PR.out.below hb)
 have O_re := Hd (O_re.out.below hb)
 have HB := Hd (Zb HB.out hb)
 clear hb
 go_wp2_with fail
 have HS1 := Hd HB.out.size
 have T_re := Hd (fun g h => (O_re.out.mine g h).2)
 refine (H6.out wx6).mono ?_
 rintro e wx7 ⟨v, rfl, hI, hb⟩
 obtain ⟨Ab1, cb1, Ab2, cb2, rfl, -⟩ := hI.form
 have P_z := Hd (P_z.out.below hb)
 have PR := Hd (PR.out.below hb)
 have O_re := Hd (O_re.out.below hb)
 have HB := Hd (Zb HB.out hb)
 obtain ⟨l_z, z_0, z_1, z_2, z_3, z_4, z_5, z_6, z_7⟩ := P_z.out.facts
 obtain ⟨f0, f1, f2, f3, f4, f5, f6, f7⟩ := P_z.out.free
 have pz := P_z.out.im_ (.bool (decide (m < 0))) (.slice Ab1 (Za m.natAbs).length cb1) (.bool (decide (f < 0))) (.slice Ab2 (Za f.natAbs).length cb2)
 have pr := PR.out.far (ZJ wx7 b_z (.bool (decide (m < 0))) (.slice Ab1 (Za m.natAbs).length cb1) (.bool (decide (f < 0))) (.slice Ab2 (Za f.natAbs).length cb2)) (by have := N_z.out; omega)
 have hb4 := XJ HB.out (show w.heap.size <= b_z by have := N_z.out; omega) (.bool (decide (m < 0))) (.slice Ab1 (Za m.natAbs).length cb1) (.bool (decide (f < 0))) (.slice Ab2 (Za f.natAbs).length cb2)
 have q_O_re := O_re.out.other P_z.out.blk (by decide) (ZJ wx7 b_z (.bool (decide (m < 0))) (.slice Ab1 (Za m.natAbs).length cb1) (.bool (decide (f < 0))) (.slice Ab2 (Za f.natAbs).length cb2))
 have q_O_im := Ze.other (hI) P_z.out.blk (by decide) (ZJ wx7 b_z (.bool (decide (m < 0))) (.slice Ab1 (Za m.natAbs).length cb1) (.bool (decide (f < 0))) (.slice Ab2 (Za f.natAbs).length cb2))
 go_upto_region 14 with fail
 obtain ⟨wh7_1, E⟩ : ∃ Y, Y = ((((wx7.setCell ⟨b_z, 4, none⟩ (.bool (decide (m < 0)))).setCell ⟨b_z, 5, none⟩ (.slice Ab1 (Za m.natAbs).length cb1)).setCell ⟨b_z, 6, none⟩ (.bool (decide (f < 0)))).setCell ⟨b_z, 7, none⟩ (.slice Ab2 (Za f.natAbs).length cb2)) := ⟨_, rfl⟩
 rw [<- E] at pz pr hb4 q_O_re q_O_im ⊢
 clear l_z z_0 z_1 z_2 z_3 z_4 z_5 z_6 z_7 f0 f1 f2 f3 f4 f5 f6 f7 E
 clear hI hb
 have P_z := Hd pz
 have PR := Hd pr
 have HB := Hd hb4
 have O_re := Hd q_O_re
 have O_im := Hd q_O_im
 clear pz pr hb4 q_O_re q_O_im
 obtain ⟨l_z, z_0, z_1, z_2, z_3, z_4, z_5, z_6, z_7⟩ := P_z.out.facts
 go_wp2_with fail
 refine (H7.out wh7_1 _ O_im.out.at_).mono ?_
 rintro e wx8 ⟨rfl, hb⟩
 clear l_z z_0 z_1 z_2 z_3 z_4 z_5 z_6 z_7
 have P_z := Hd (P_z.out.below hb)
 have PR := Hd (PR.out.below hb)
 have O_re := Hd (O_re.out.below hb)
 have O_im := Hd (O_im.out.below hb)
 have HB := Hd (Zb HB.out hb)
 clear hb
 obtain ⟨l_r, r0, r1, r2, r3, r4, r5, r6, r7⟩ := PR.out.facts
 obtain ⟨f0, f1, f2, f3, f4, f5, f6, f7⟩ := PR.out.free
 have H9 := Hd (gzero PR.out HB.out (show w.heap.size <= w.heap.size by omega))
 go_wp2_with fail
 obtain ⟨_, k0, k1, k2, k3, k4, k5, k6, k7⟩ := H9.out.1.facts
 exact bodyPost_ret (by simp [results, Tryz.results9, go_sem, k0, k1, k2, k3, k4, k5, k6, k7]) rfl ⟨_, rfl, Zk.nought _ _, H9.out.2⟩

theorem gparse_D3f {z0 o n d s0 m f s1 : Int} (s : ByteArray) (hl : s.size <= 65536) (C0 : ∀ V : World, Calls Tryz.prog 24 #[.int .i64 0, .int .i64 0] V (Zo V.heap.size V z0 o z0 o)) (fr rest : ByteArray) (k : Nat) (h0 : 0 < k) (hk : k <= fr.size) (hf : fr.size <= 65536) (C1 : ∀ V : World, Calls Tryz.prog 25 #[.string s, .string ⟨#[105]⟩] V fun e w' => e = .returned (.tuple #[.string fr, .bool true]) /\ Below V.heap.size V w') (C2 : ∀ V : World, Lib.Utf8Tabs 2 3 V -> Calls Tryz.prog 26 #[.string fr, .string ⟨#[43, 45]⟩] V fun e w' => e = .returned (.int .i64 (k : Int)) /\ Below V.heap.size V w') (C3 : ∀ V : World, Calls Tryz.prog 27 #[.string (fr.extract 0 k)] V (ZF V n d true)) (C4 : Yg 21 n d s0) (z : (s0 != 0) = true) (C5 : ∀ V : World, Calls Tryz.prog 29 #[.string (fr.extract k fr.size), .string ⟨#[43]⟩] V fun e w' => e = .returned (.tuple #[.string rest, .bool false]) /\ Below V.heap.size V w') (C6 : ∀ V : World, Calls Tryz.prog 28 #[.string rest] V (ZF V m f true)) (C7 : Yg 21 m f s1) (z2 : 0 < s1) (w : World)  (hu : Lib.Utf8Tabs 2 3 w) :
  Calls Tryz.prog 9 #[.string s] w (Zn w.heap.size w 0 0 0 0 5) := by
 have hz : (s.size : Int) <= 65536 := by omega
 clear hl
 have HU := Hd hu
 have a1 : (0 : Int) < (k : Int) := by omega
 have a2 : ¬ (k : Int) <= 0 := by omega
 have a3 : (0 : Int) <= (k : Int) := by omega
 have a4 : (k : Int) <= (fr.size : Int) := by omega
 have a5 : (fr.size : Int) <= 65536 := by omega
 clear hu h0 hk hf
 have z3 : decide (0 < s1) = true := decide_eq_true z2
 have H0 := Hd C0
 have H1 := Hd C1
 have H2 := Hd C2
 have H3 := Hd C3
 have H4 := Hd C4
 have H5 := Hd C5
 have H6 := Hd C6
 have H7 := Hd C7
 clear C0 C1 C2 C3 C4 C5 C6 C7
 go_enter Tryz.func9, Tryz.ntmps9
 go_upto_region 1 with fail
 refine Zy (P := fun W => Code.wp _ _ _ _ W) fun W p0 b0 => ?_
 have PR := Hd (ZX.mk p0)
 have HB := Hd b0
 clear b0 p0
 go_wp2_with fail
 refine (H0.out W).mono ?_
 rintro e wx1 ⟨v, rfl, hI, hb⟩
 have hlt := (PR.out.below hb).blk.lt
 have hi := hI.in_
 obtain ⟨Az1, cz1, Az2, cz2, Az3, cz3, Az4, cz4, rfl, -⟩ := hI.form
 have HS_z := Hd HB.out.size
 have ha := (Below.refl wx1.heap.size wx1).alloc (Nat.le_refl _) (.cells #[.bool (decide (z0 < 0)), .slice Az1 (Za z0.natAbs).length cz1, .bool (decide (o < 0)), .slice Az2 (Za o.natAbs).length cz2, .bool (decide (z0 < 0)), .slice Az3 (Za z0.natAbs).length cz3, .bool (decide (o < 0)), .slice Az4 (Za o.natAbs).length cz4] 28)
 have hq := ZX.new wx1 28 (.bool (decide (z0 < 0))) (.slice Az1 (Za z0.natAbs).length cz1) (.bool (decide (o < 0))) (.slice Az2 (Za o.natAbs).length cz2) (.bool (decide (z0 < 0))) (.slice Az3 (Za z0.natAbs).length cz3) (.bool (decide (o < 0))) (.slice Az4 (Za o.natAbs).length cz4)
 have hi := hi.below ha
 have ho := hI.below ha
 have PR := Hd (PR.out.below hb)
 have HB := Hd (Zb HB.out hb)
 have PR := Hd (PR.out.below ha)
 have HB := Hd (Zb HB.out ha)
 go_upto_region 4 with fail
 obtain ⟨wy1, E⟩ : ∃ W, W = wx1.alloc (.cells #[.bool (decide (z0 < 0)), .slice Az1 (Za z0.natAbs).length cz1, .bool (decide (o < 0)), .slice Az2 (Za o.natAbs).length cz2, .bool (decide (z0 < 0)), .slice Az3 (Za z0.natAbs).length cz3, .bool (decide (o < 0)), .slice Az4 (Za o.natAbs).length cz4] 28) := ⟨_, rfl⟩
 obtain ⟨b_z, hbq⟩ : ∃ q, q = wx1.heap.size := ⟨_, rfl⟩
 rw [<- E] at hi ho PR HB
 rw [<- E, <- hbq] at hq ⊢
 have P_z := Hd hq
 have O_z := Hd hi
 have Q_z := Hd ho
 clear ho
 have N_z := Hd (show w.heap.size < b_z by rw [hbq]; exact hlt)
 clear hlt
 clear hI hi hb ha hq hbq E
 have O_re := Hd (Q_z.out.parts.1.base HS_z.out)
 have O_im := Hd (Q_z.out.parts.2.base HS_z.out)
 clear Q_z HS_z O_z
 go_wp2_with fail
 refine (H1.out wy1).mono ?_
 rintro e wx2 ⟨rfl, hb⟩
 have P_z := Hd (P_z.out.below hb)
 have PR := Hd (PR.out.below hb)
 have O_re := Hd (O_re.out.below hb)
 have O_im := Hd (O_im.out.below hb)
 have HB := Hd (Zb HB.out hb)
 clear hb
 go_wp2_with fail
 refine (H2.out wx2 (Utf8Tabs_below HU.out HB.out)).mono ?_
 rintro e wx3 ⟨rfl, hb⟩
 have P_z := Hd (P_z.out.below hb)
 have PR := Hd (PR.out.below hb)
 have O_re := Hd (O_re.out.below hb)
 have O_im := Hd (O_im.out.below hb)
 have HB := Hd (Zb HB.out hb)
 clear hb
 clear O_im
 go_wp2_with fail
 have HS0 := Hd HB.out.size
 refine (H3.out wx3).mono ?_
 rintro e wx4 ⟨v, rfl, hI, hb⟩
 obtain ⟨Aa1, ca1, Aa2, ca2, rfl, -⟩ := hI.form
 have P_z := Hd (P_z.out.below hb)
 have PR := Hd (PR.out.below hb)
 have HB := Hd (Zb HB.out hb)
 obtain ⟨l_z, z_0, z_1, z_2, z_3, z_4, z_5, z_6, z_7⟩ := P_z.out.facts
 obtain ⟨f0, f1, f2, f3, f4, f5, f6, f7⟩ := P_z.out.free
 have pz := P_z.out.re_ (.bool (decide (n < 0))) (.slice Aa1 (Za n.natAbs).length ca1) (.bool (decide (d < 0))) (.slice Aa2 (Za d.natAbs).length ca2)
 have pr := PR.out.far (ZY wx4 b_z (.bool (decide (n < 0))) (.slice Aa1 (Za n.natAbs).length ca1) (.bool (decide (d < 0))) (.slice Aa2 (Za d.natAbs).length ca2)) (by have := N_z.out; omega)
 have hb4 := Yc HB.out (show w.heap.size <= b_z by have := N_z.out; omega) (.bool (decide (n < 0))) (.slice Aa1 (Za n.natAbs).length ca1) (.bool (decide (d < 0))) (.slice Aa2 (Za d.natAbs).length ca2)
 have q_O_re := Ze.other (hI) P_z.out.blk (by decide) (ZY wx4 b_z (.bool (decide (n < 0))) (.slice Aa1 (Za n.natAbs).length ca1) (.bool (decide (d < 0))) (.slice Aa2 (Za d.natAbs).length ca2))
 go_upto_region 11 with fail
 obtain ⟨wh4_0, E⟩ : ∃ Y, Y = ((((wx4.setCell ⟨b_z, 0, none⟩ (.bool (decide (n < 0)))).setCell ⟨b_z, 1, none⟩ (.slice Aa1 (Za n.natAbs).length ca1)).setCell ⟨b_z, 2, none⟩ (.bool (decide (d < 0)))).setCell ⟨b_z, 3, none⟩ (.slice Aa2 (Za d.natAbs).length ca2)) := ⟨_, rfl⟩
 rw [<- E] at pz pr hb4 q_O_re ⊢
 clear l_z z_0 z_1 z_2 z_3 z_4 z_5 z_6 z_7 f0 f1 f2 f3 f4 f5 f6 f7 E
 clear hI hb
 have P_z := Hd pz
 have PR := Hd pr
 have HB := Hd hb4
 have O_re := Hd q_O_re
 clear pz pr hb4 q_O_re
 obtain ⟨l_z, z_0, z_1, z_2, z_3, z_4, z_5, z_6, z_7⟩ := P_z.out.facts
 go_wp2_with fail
 refine (H4.out wh4_0 _ O_re.out.at_).mono ?_
 rintro e wx5 ⟨rfl, hb⟩
 clear l_z z_0 z_1 z_2 z_3 z_4 z_5 z_6 z_7
 have P_z := Hd (P_z.out.below hb)
 have PR := Hd (PR.out.below hb)
 have O_re := Hd (O_re.out.below hb)
 have HB := Hd (Zb HB.out hb)
 clear hb
 go_wp2_with fail
 refine (H5.out wx5).mono ?_
 rintro e wx6 ⟨rfl, hb⟩
 have P_z := Hd (P_z.out.below hb)
 have PR := Hd (PR.out.below hb)
 have O_re := Hd (O_re.out.below hb)
 have HB := Hd (Zb HB.out hb)
 clear hb
 go_wp2_with fail
 have HS1 := Hd HB.out.size
 have T_re := Hd (fun g h => (O_re.out.mine g h).2)
 refine (H6.out wx6).mono ?_
 rintro e wx7 ⟨v, rfl, hI, hb⟩
 obtain ⟨Ab1, cb1, Ab2, cb2, rfl, -⟩ := hI.form
 have P_z := Hd (P_z.out.below hb)
 have PR := Hd (PR.out.below hb)
 have O_re := Hd (O_re.out.below hb)
 have HB := Hd (Zb HB.out hb)
 obtain ⟨l_z, z_0, z_1, z_2, z_3, z_4, z_5, z_6, z_7⟩ := P_z.out.facts
 obtain ⟨f0, f1, f2, f3, f4, f5, f6, f7⟩ := P_z.out.free
 have pz := P_z.out.im_ (.bool (decide (m < 0))) (.slice Ab1 (Za m.natAbs).length cb1) (.bool (decide (f < 0))) (.slice Ab2 (Za f.natAbs).length cb2)
 have pr := PR.out.far (ZJ wx7 b_z (.bool (decide (m < 0))) (.slice Ab1 (Za m.natAbs).length cb1) (.bool (decide (f < 0))) (.slice Ab2 (Za f.natAbs).length cb2)) (by have := N_z.out; omega)
 have hb4 := XJ HB.out (show w.heap.size <= b_z by have := N_z.out; omega) (.bool (decide (m < 0))) (.slice Ab1 (Za m.natAbs).length cb1) (.bool (decide (f < 0))) (.slice Ab2 (Za f.natAbs).length cb2)
 have q_O_re := O_re.out.other P_z.out.blk (by decide) (ZJ wx7 b_z (.bool (decide (m < 0))) (.slice Ab1 (Za m.natAbs).length cb1) (.bool (decide (f < 0))) (.slice Ab2 (Za f.natAbs).length cb2))
 have q_O_im := Ze.other (hI) P_z.out.blk (by decide) (ZJ wx7 b_z (.bool (decide (m < 0))) (.slice Ab1 (Za m.natAbs).length cb1) (.bool (decide (f < 0))) (.slice Ab2 (Za f.natAbs).length cb2))
 go_upto_region 14 with fail
 obtain ⟨wh7_1, E⟩ : ∃ Y, Y = ((((wx7.setCell ⟨b_z, 4, none⟩ (.bool (decide (m < 0)))).setCell ⟨b_z, 5, none⟩ (.slice Ab1 (Za m.natAbs).length cb1)).setCell ⟨b_z, 6, none⟩ (.bool (decide (f < 0)))).setCell ⟨b_z, 7, none⟩ (.slice Ab2 (Za f.natAbs).length cb2)) := ⟨_, rfl⟩
 rw [<- E] at pz pr hb4 q_O_re q_O_im ⊢
 clear l_z z_0 z_1 z_2 z_3 z_4 z_5 z_6 z_7 f0 f1 f2 f3 f4 f5 f6 f7 E
 clear hI hb
 have P_z := Hd pz
 have PR := Hd pr
 have HB := Hd hb4
 have O_re := Hd q_O_re
 have O_im := Hd q_O_im
 clear pz pr hb4 q_O_re q_O_im
 obtain ⟨l_z, z_0, z_1, z_2, z_3, z_4, z_5, z_6, z_7⟩ := P_z.out.facts
 go_wp2_with fail
 refine (H7.out wh7_1 _ O_im.out.at_).mono ?_
 rintro e wx8 ⟨rfl, hb⟩
 clear l_z z_0 z_1 z_2 z_3 z_4 z_5 z_6 z_7
 have P_z := Hd (P_z.out.below hb)
 have PR := Hd (PR.out.below hb)
 have O_re := Hd (O_re.out.below hb)
 have O_im := Hd (O_im.out.below hb)
 have HB := Hd (Zb HB.out hb)
 clear hb
 obtain ⟨l_r, r0, r1, r2, r3, r4, r5, r6, r7⟩ := PR.out.facts
 obtain ⟨f0, f1, f2, f3, f4, f5, f6, f7⟩ := PR.out.free
 have H9 := Hd (gzero PR.out HB.out (show w.heap.size <= w.heap.size by omega))
 go_wp2_with fail
 obtain ⟨_, k0, k1, k2, k3, k4, k5, k6, k7⟩ := H9.out.1.facts
 exact bodyPost_ret (by simp [results, Tryz.results9, go_sem, k0, k1, k2, k3, k4, k5, k6, k7]) rfl ⟨_, rfl, Zk.nought _ _, H9.out.2⟩

theorem gparse_D4t {z0 o n d s0 m f s1 N D M E K : Int} (s : ByteArray) (hl : s.size <= 65536) (C0 : ∀ V : World, Calls Tryz.prog 24 #[.int .i64 0, .int .i64 0] V (Zo V.heap.size V z0 o z0 o)) (fr rest : ByteArray) (k : Nat) (h0 : 0 < k) (hk : k <= fr.size) (hf : fr.size <= 65536) (C1 : ∀ V : World, Calls Tryz.prog 25 #[.string s, .string ⟨#[105]⟩] V fun e w' => e = .returned (.tuple #[.string fr, .bool true]) /\ Below V.heap.size V w') (C2 : ∀ V : World, Lib.Utf8Tabs 2 3 V -> Calls Tryz.prog 26 #[.string fr, .string ⟨#[43, 45]⟩] V fun e w' => e = .returned (.int .i64 (k : Int)) /\ Below V.heap.size V w') (C3 : ∀ V : World, Calls Tryz.prog 27 #[.string (fr.extract 0 k)] V (ZF V n d true)) (C4 : Yg 21 n d s0) (z : (s0 != 0) = true) (C5 : ∀ V : World, Calls Tryz.prog 29 #[.string (fr.extract k fr.size), .string ⟨#[43]⟩] V fun e w' => e = .returned (.tuple #[.string rest, .bool true]) /\ Below V.heap.size V w') (C6 : ∀ V : World, Calls Tryz.prog 28 #[.string rest] V (ZF V m f true)) (C7 : Yg 21 m f s1) (z2 : 0 < s1) (C9 : Y5 n d m f N D M E K) (w : World)  (hu : Lib.Utf8Tabs 2 3 w) :
  Calls Tryz.prog 9 #[.string s] w (Zn w.heap.size w N D M E K) := by
 have hz : (s.size : Int) <= 65536 := by omega
 clear hl
 have HU := Hd hu
 have a1 : (0 : Int) < (k : Int) := by omega
 have a2 : ¬ (k : Int) <= 0 := by omega
 have a3 : (0 : Int) <= (k : Int) := by omega
 have a4 : (k : Int) <= (fr.size : Int) := by omega
 have a5 : (fr.size : Int) <= 65536 := by omega
 clear hu h0 hk hf
 have z3 : decide (0 < s1) = true := decide_eq_true z2
 have H0 := Hd C0
 have H1 := Hd C1
 have H2 := Hd C2
 have H3 := Hd C3
 have H4 := Hd C4
 have H5 := Hd C5
 have H6 := Hd C6
 have H7 := Hd C7
 have H9 := Hd C9
 clear C0 C1 C2 C3 C4 C5 C6 C7 C9
 go_enter Tryz.func9, Tryz.ntmps9
 go_upto_region 1 with fail
 refine Zy (P := fun W => Code.wp _ _ _ _ W) fun W p0 b0 => ?_
 have PR := Hd (ZX.mk p0)
 have HB := Hd b0
 clear b0 p0
 go_wp2_with fail
 refine (H0.out W).mono ?_
 rintro e wx1 ⟨v, rfl, hI, hb⟩
 have hlt := (PR.out.below hb).blk.lt
 have hi := hI.in_
 obtain ⟨Az1, cz1, Az2, cz2, Az3, cz3, Az4, cz4, rfl, -⟩ := hI.form
 have HS_z := Hd HB.out.size
 have ha := (Below.refl wx1.heap.size wx1).alloc (Nat.le_refl _) (.cells #[.bool (decide (z0 < 0)), .slice Az1 (Za z0.natAbs).length cz1, .bool (decide (o < 0)), .slice Az2 (Za o.natAbs).length cz2, .bool (decide (z0 < 0)), .slice Az3 (Za z0.natAbs).length cz3, .bool (decide (o < 0)), .slice Az4 (Za o.natAbs).length cz4] 28)
 have hq := ZX.new wx1 28 (.bool (decide (z0 < 0))) (.slice Az1 (Za z0.natAbs).length cz1) (.bool (decide (o < 0))) (.slice Az2 (Za o.natAbs).length cz2) (.bool (decide (z0 < 0))) (.slice Az3 (Za z0.natAbs).length cz3) (.bool (decide (o < 0))) (.slice Az4 (Za o.natAbs).length cz4)
 have hi := hi.below ha
 have ho := hI.below ha
 have PR := Hd (PR.out.below hb)
 have HB := Hd (Zb HB.out hb)
 have PR := Hd (PR.out.below ha)
 have HB := Hd (Zb HB.out ha)
 go_upto_region 4 with fail
 obtain ⟨wy1, E⟩ : ∃ W, W = wx1.alloc (.cells #[.bool (decide (z0 < 0)), .slice Az1 (Za z0.natAbs).length cz1, .bool (decide (o < 0)), .slice Az2 (Za o.natAbs).length cz2, .bool (decide (z0 < 0)), .slice Az3 (Za z0.natAbs).length cz3, .bool (decide (o < 0)), .slice Az4 (Za o.natAbs).length cz4] 28) := ⟨_, rfl⟩
 obtain ⟨b_z, hbq⟩ : ∃ q, q = wx1.heap.size := ⟨_, rfl⟩
 rw [<- E] at hi ho PR HB
 rw [<- E, <- hbq] at hq ⊢
 have P_z := Hd hq
 have O_z := Hd hi
 have Q_z := Hd ho
 clear ho
 have N_z := Hd (show w.heap.size < b_z by rw [hbq]; exact hlt)
 clear hlt
 clear hI hi hb ha hq hbq E
 have O_re := Hd (Q_z.out.parts.1.base HS_z.out)
 have O_im := Hd (Q_z.out.parts.2.base HS_z.out)
 clear Q_z HS_z O_z
 go_wp2_with fail
 refine (H1.out wy1).mono ?_
 rintro e wx2 ⟨rfl, hb⟩
 have P_z := Hd (P_z.out.below hb)
 have PR := Hd (PR.out.below hb)
 have O_re := Hd (O_re.out.below hb)
 have O_im := Hd (O_im.out.below hb)
 have HB := Hd (Zb HB.out hb)
 clear hb
 go_wp2_with fail
 refine (H2.out wx2 (Utf8Tabs_below HU.out HB.out)).mono ?_
 rintro e wx3 ⟨rfl, hb⟩
 have P_z := Hd (P_z.out.below hb)
 have PR := Hd (PR.out.below hb)
 have O_re := Hd (O_re.out.below hb)
 have O_im := Hd (O_im.out.below hb)
 have HB := Hd (Zb HB.out hb)
 clear hb
 clear O_im
 go_wp2_with fail
 have HS0 := Hd HB.out.size
 refine (H3.out wx3).mono ?_
 rintro e wx4 ⟨v, rfl, hI, hb⟩
 obtain ⟨Aa1, ca1, Aa2, ca2, rfl, -⟩ := hI.form
 have P_z := Hd (P_z.out.below hb)
 have PR := Hd (PR.out.below hb)
 have HB := Hd (Zb HB.out hb)
 obtain ⟨l_z, z_0, z_1, z_2, z_3, z_4, z_5, z_6, z_7⟩ := P_z.out.facts
 obtain ⟨f0, f1, f2, f3, f4, f5, f6, f7⟩ := P_z.out.free
 have pz := P_z.out.re_ (.bool (decide (n < 0))) (.slice Aa1 (Za n.natAbs).length ca1) (.bool (decide (d < 0))) (.slice Aa2 (Za d.natAbs).length ca2)
 have pr := PR.out.far (ZY wx4 b_z (.bool (decide (n < 0))) (.slice Aa1 (Za n.natAbs).length ca1) (.bool (decide (d < 0))) (.slice Aa2 (Za d.natAbs).length ca2)) (by have := N_z.out; omega)
 have hb4 := Yc HB.out (show w.heap.size <= b_z by have := N_z.out; omega) (.bool (decide (n < 0))) (.slice Aa1 (Za n.natAbs).length ca1) (.bool (decide (d < 0))) (.slice Aa2 (Za d.natAbs).length ca2)
 have q_O_re := Ze.other (hI) P_z.out.blk (by decide) (ZY wx4 b_z (.bool (decide (n < 0))) (.slice Aa1 (Za n.natAbs).length ca1) (.bool (decide (d < 0))) (.slice Aa2 (Za d.natAbs).length ca2))
 go_upto_region 11 with fail
 obtain ⟨wh4_0, E⟩ : ∃ Y, Y = ((((wx4.setCell ⟨b_z, 0, none⟩ (.bool (decide (n < 0)))).setCell ⟨b_z, 1, none⟩ (.slice Aa1 (Za n.natAbs).length ca1)).setCell ⟨b_z, 2, none⟩ (.bool (decide (d < 0)))).setCell ⟨b_z, 3, none⟩ (.slice Aa2 (Za d.natAbs).length ca2)) := ⟨_, rfl⟩
 rw [<- E] at pz pr hb4 q_O_re ⊢
 clear l_z z_0 z_1 z_2 z_3 z_4 z_5 z_6 z_7 f0 f1 f2 f3 f4 f5 f6 f7 E
 clear hI hb
 have P_z := Hd pz
 have PR := Hd pr
 have HB := Hd hb4
 have O_re := Hd q_O_re
 clear pz pr hb4 q_O_re
 obtain ⟨l_z, z_0, z_1, z_2, z_3, z_4, z_5, z_6, z_7⟩ := P_z.out.facts
 go_wp2_with fail
 refine (H4.out wh4_0 _ O_re.out.at_).mono ?_
 rintro e wx5 ⟨rfl, hb⟩
 clear l_z z_0 z_1 z_2 z_3 z_4 z_5 z_6 z_7
 have P_z := Hd (P_z.out.below hb)
 have PR := Hd (PR.out.below hb)
 have O_re := Hd (O_re.out.below hb)
 have HB := Hd (Zb HB.out hb)
 clear hb
 go_wp2_with fail
 refine (H5.out wx5).mono ?_
 rintro e wx6 ⟨rfl, hb⟩
 have P_z := Hd (P_z.out.below hb)
 have PR := Hd (PR.out.below hb)
 have O_re := Hd (O_re.out.below hb)
 have HB := Hd (Zb HB.out hb)
 clear hb
 go_wp2_with fail
 have HS1 := Hd HB.out.size
 have T_re := Hd (fun g h => (O_re.out.mine g h).2)
 refine (H6.out wx6).mono ?_
 rintro e wx7 ⟨v, rfl, hI, hb⟩
 obtain ⟨Ab1, cb1, Ab2, cb2, rfl, -⟩ := hI.form
 have P_z := Hd (P_z.out.below hb)
 have PR := Hd (PR.out.below hb)
 have O_re := Hd (O_re.out.below hb)
 have HB := Hd (Zb HB.out hb)
 obtain ⟨l_z, z_0, z_1, z_2, z_3, z_4, z_5, z_6, z_7⟩ := P_z.out.facts
 obtain ⟨f0, f1, f2, f3, f4, f5, f6, f7⟩ := P_z.out.free
 have pz := P_z.out.im_ (.bool (decide (m < 0))) (.slice Ab1 (Za m.natAbs).length cb1) (.bool (decide (f < 0))) (.slice Ab2 (Za f.natAbs).length cb2)
 have pr := PR.out.far (ZJ wx7 b_z (.bool (decide (m < 0))) (.slice Ab1 (Za m.natAbs).length cb1) (.bool (decide (f < 0))) (.slice Ab2 (Za f.natAbs).length cb2)) (by have := N_z.out; omega)
 have hb4 := XJ HB.out (show w.heap.size <= b_z by have := N_z.out; omega) (.bool (decide (m < 0))) (.slice Ab1 (Za m.natAbs).length cb1) (.bool (decide (f < 0))) (.slice Ab2 (Za f.natAbs).length cb2)
 have q_O_re := O_re.out.other P_z.out.blk (by decide) (ZJ wx7 b_z (.bool (decide (m < 0))) (.slice Ab1 (Za m.natAbs).length cb1) (.bool (decide (f < 0))) (.slice Ab2 (Za f.natAbs).length cb2))
 have q_O_im := Ze.other (hI) P_z.out.blk (by decide) (ZJ wx7 b_z (.bool (decide (m < 0))) (.slice Ab1 (Za m.natAbs).length cb1) (.bool (decide (f < 0))) (.slice Ab2 (Za f.natAbs).length cb2))
 go_upto_region 14 with fail
 obtain ⟨wh7_1, E⟩ : ∃ Y, Y = ((((wx7.setCell ⟨b_z, 4, none⟩ (.bool (decide (m < 0)))).setCell ⟨b_z, 5, none⟩ (.slice Ab1 (Za m.natAbs).length cb1)).setCell ⟨b_z, 6, none⟩ (.bool (decide (f < 0)))).setCell ⟨b_z, 7, none⟩ (.slice Ab2 (Za f.natAbs).length cb2)) := ⟨_, rfl⟩
 rw [<- E] at pz pr hb4 q_O_re q_O_im ⊢
 clear l_z z_0 z_1 z_2 z_3 z_4 z_5 z_6 z_7 f0 f1 f2 f3 f4 f5 f6 f7 E
 clear hI hb
 have P_z := Hd pz
 have PR := Hd pr
 have HB := Hd hb4
 have O_re := Hd q_O_re
 have O_im := Hd q_O_im
 clear pz pr hb4 q_O_re q_O_im
 obtain ⟨l_z, z_0, z_1, z_2, z_3, z_4, z_5, z_6, z_7⟩ := P_z.out.facts
 go_wp2_with fail
 refine (H7.out wh7_1 _ O_im.out.at_).mono ?_
 rintro e wx8 ⟨rfl, hb⟩
 clear l_z z_0 z_1 z_2 z_3 z_4 z_5 z_6 z_7
 have P_z := Hd (P_z.out.below hb)
 have PR := Hd (PR.out.below hb)
 have O_re := Hd (O_re.out.below hb)
 have O_im := Hd (O_im.out.below hb)
 have HB := Hd (Zb HB.out hb)
 clear hb
 obtain ⟨l_z, z_0, z_1, z_2, z_3, z_4, z_5, z_6, z_7⟩ := P_z.out.facts
 go_wp2_with fail
 refine (H9.out wx8 w.heap.size _ HB.out.size (Zk.mk_up (O_re.out.base HS0.out) O_im.out HS1.out T_re.out)).mono ?_
 rintro e w9 ⟨v, rfl, hI, hb⟩
 obtain ⟨A6, c6, A7, c7, A8, c8, A9, c9, rfl, -⟩ := hI.form
 have pr := PR.out.below hb
 have hb9 := Zb HB.out hb
 obtain ⟨l_r, r0, r1, r2, r3, r4, r5, r6, r7⟩ := pr.facts
 obtain ⟨f0, f1, f2, f3, f4, f5, f6, f7⟩ := pr.free
 have HF := Hd (Jb hI pr hb9 (show w.heap.size <= w.heap.size by omega) (by decide))
 clear hb hb9 pr hI l_z z_0 z_1 z_2 z_3 z_4 z_5 z_6 z_7
 go_wp2_with fail
 obtain ⟨_, k0, k1, k2, k3, k4, k5, k6, k7⟩ := HF.out.1.facts
 exact bodyPost_ret (by simp [results, Tryz.results9, go_sem, k0, k1, k2, k3, k4, k5, k6, k7]) rfl ⟨_, rfl, HF.out.2.2, HF.out.2.1⟩

theorem gparse_D4f {z0 o n d s0 m f s1 N D M E K : Int} (s : ByteArray) (hl : s.size <= 65536) (C0 : ∀ V : World, Calls Tryz.prog 24 #[.int .i64 0, .int .i64 0] V (Zo V.heap.size V z0 o z0 o)) (fr rest : ByteArray) (k : Nat) (h0 : 0 < k) (hk : k <= fr.size) (hf : fr.size <= 65536) (C1 : ∀ V : World, Calls Tryz.prog 25 #[.string s, .string ⟨#[105]⟩] V fun e w' => e = .returned (.tuple #[.string fr, .bool true]) /\ Below V.heap.size V w') (C2 : ∀ V : World, Lib.Utf8Tabs 2 3 V -> Calls Tryz.prog 26 #[.string fr, .string ⟨#[43, 45]⟩] V fun e w' => e = .returned (.int .i64 (k : Int)) /\ Below V.heap.size V w') (C3 : ∀ V : World, Calls Tryz.prog 27 #[.string (fr.extract 0 k)] V (ZF V n d true)) (C4 : Yg 21 n d s0) (z : (s0 != 0) = true) (C5 : ∀ V : World, Calls Tryz.prog 29 #[.string (fr.extract k fr.size), .string ⟨#[43]⟩] V fun e w' => e = .returned (.tuple #[.string rest, .bool false]) /\ Below V.heap.size V w') (C6 : ∀ V : World, Calls Tryz.prog 28 #[.string rest] V (ZF V m f true)) (C7 : Yg 21 m f s1) (z2 : ¬ 0 < s1) (C9 : Y5 n d m f N D M E K) (w : World)  (hu : Lib.Utf8Tabs 2 3 w) :
  Calls Tryz.prog 9 #[.string s] w (Zn w.heap.size w N D M E K) := by
 have hz : (s.size : Int) <= 65536 := by omega
 clear hl
 have HU := Hd hu
 have a1 : (0 : Int) < (k : Int) := by omega
 have a2 : ¬ (k : Int) <= 0 := by omega
 have a3 : (0 : Int) <= (k : Int) := by omega
 have a4 : (k : Int) <= (fr.size : Int) := by omega
 have a5 : (fr.size : Int) <= 65536 := by omega
 clear hu h0 hk hf
 have z3 : decide (0 < s1) = false := decide_eq_false z2
 have H0 := Hd C0
 have H1 := Hd C1
 have H2 := Hd C2
 have H3 := Hd C3
 have H4 := Hd C4
 have H5 := Hd C5
 have H6 := Hd C6
 have H7 := Hd C7
 have H9 := Hd C9
 clear C0 C1 C2 C3 C4 C5 C6 C7 C9
 go_enter Tryz.func9, Tryz.ntmps9
 go_upto_region 1 with fail
 refine Zy (P := fun W => Code.wp _ _ _ _ W) fun W p0 b0 => ?_
 have PR := Hd (ZX.mk p0)
 have HB := Hd b0
 clear b0 p0
 go_wp2_with fail
 refine (H0.out W).mono ?_
 rintro e wx1 ⟨v, rfl, hI, hb⟩
 have hlt := (PR.out.below hb).blk.lt
 have hi := hI.in_
 obtain ⟨Az1, cz1, Az2, cz2, Az3, cz3, Az4, cz4, rfl, -⟩ := hI.form
 have HS_z := Hd HB.out.size
 have ha := (Below.refl wx1.heap.size wx1).alloc (Nat.le_refl _) (.cells #[.bool (decide (z0 < 0)), .slice Az1 (Za z0.natAbs).length cz1, .bool (decide (o < 0)), .slice Az2 (Za o.natAbs).length cz2, .bool (decide (z0 < 0)), .slice Az3 (Za z0.natAbs).length cz3, .bool (decide (o < 0)), .slice Az4 (Za o.natAbs).length cz4] 28)
 have hq := ZX.new wx1 28 (.bool (decide (z0 < 0))) (.slice Az1 (Za z0.natAbs).length cz1) (.bool (decide (o < 0))) (.slice Az2 (Za o.natAbs).length cz2) (.bool (decide (z0 < 0))) (.slice Az3 (Za z0.natAbs).length cz3) (.bool (decide (o < 0))) (.slice Az4 (Za o.natAbs).length cz4)
 have hi := hi.below ha
 have ho := hI.below ha
 have PR := Hd (PR.out.below hb)
 have HB := Hd (Zb HB.out hb)
 have PR := Hd (PR.out.below ha)
 have HB := Hd (Zb HB.out ha)
 go_upto_region 4 with fail
 obtain ⟨wy1, E⟩ : ∃ W, W = wx1.alloc (.cells #[.bool (decide (z0 < 0)), .slice Az1 (Za z0.natAbs).length cz1, .bool (decide (o < 0)), .slice Az2 (Za o.natAbs).length cz2, .bool (decide (z0 < 0)), .slice Az3 (Za z0.natAbs).length cz3, .bool (decide (o < 0)), .slice Az4 (Za o.natAbs).length cz4] 28) := ⟨_, rfl⟩
 obtain ⟨b_z, hbq⟩ : ∃ q, q = wx1.heap.size := ⟨_, rfl⟩
 rw [<- E] at hi ho PR HB
 rw [<- E, <- hbq] at hq ⊢
 have P_z := Hd hq
 have O_z := Hd hi
 have Q_z := Hd ho
 clear ho
 have N_z := Hd (show w.heap.size < b_z by rw [hbq]; exact hlt)
 clear hlt
 clear hI hi hb ha hq hbq E
 have O_re := Hd (Q_z.out.parts.1.base HS_z.out)
 have O_im := Hd (Q_z.out.parts.2.base HS_z.out)
 clear Q_z HS_z O_z
 go_wp2_with fail
 refine (H1.out wy1).mono ?_
 rintro e wx2 ⟨rfl, hb⟩
 have P_z := Hd (P_z.out.below hb)
 have PR := Hd (PR.out.below hb)
 have O_re := Hd (O_re.out.below hb)
 have O_im := Hd (O_im.out.below hb)
 have HB := Hd (Zb HB.out hb)
 clear hb
 go_wp2_with fail
 refine (H2.out wx2 (Utf8Tabs_below HU.out HB.out)).mono ?_
 rintro e wx3 ⟨rfl, hb⟩
 have P_z := Hd (P_z.out.below hb)
 have PR := Hd (PR.out.below hb)
 have O_re := Hd (O_re.out.below hb)
 have O_im := Hd (O_im.out.below hb)
 have HB := Hd (Zb HB.out hb)
 clear hb
 clear O_im
 go_wp2_with fail
 have HS0 := Hd HB.out.size
 refine (H3.out wx3).mono ?_
 rintro e wx4 ⟨v, rfl, hI, hb⟩
 obtain ⟨Aa1, ca1, Aa2, ca2, rfl, -⟩ := hI.form
 have P_z := Hd (P_z.out.below hb)
 have PR := Hd (PR.out.below hb)
 have HB := Hd (Zb HB.out hb)
 obtain ⟨l_z, z_0, z_1, z_2, z_3, z_4, z_5, z_6, z_7⟩ := P_z.out.facts
 obtain ⟨f0, f1, f2, f3, f4, f5, f6, f7⟩ := P_z.out.free
 have pz := P_z.out.re_ (.bool (decide (n < 0))) (.slice Aa1 (Za n.natAbs).length ca1) (.bool (decide (d < 0))) (.slice Aa2 (Za d.natAbs).length ca2)
 have pr := PR.out.far (ZY wx4 b_z (.bool (decide (n < 0))) (.slice Aa1 (Za n.natAbs).length ca1) (.bool (decide (d < 0))) (.slice Aa2 (Za d.natAbs).length ca2)) (by have := N_z.out; omega)
 have hb4 := Yc HB.out (show w.heap.size <= b_z by have := N_z.out; omega) (.bool (decide (n < 0))) (.slice Aa1 (Za n.natAbs).length ca1) (.bool (decide (d < 0))) (.slice Aa2 (Za d.natAbs).length ca2)
 have q_O_re := Ze.other (hI) P_z.out.blk (by decide) (ZY wx4 b_z (.bool (decide (n < 0))) (.slice Aa1 (Za n.natAbs).length ca1) (.bool (decide (d < 0))) (.slice Aa2 (Za d.natAbs).length ca2))
 go_upto_region 11 with fail
 obtain ⟨wh4_0, E⟩ : ∃ Y, Y = ((((wx4.setCell ⟨b_z, 0, none⟩ (.bool (decide (n < 0)))).setCell ⟨b_z, 1, none⟩ (.slice Aa1 (Za n.natAbs).length ca1)).setCell ⟨b_z, 2, none⟩ (.bool (decide (d < 0)))).setCell ⟨b_z, 3, none⟩ (.slice Aa2 (Za d.natAbs).length ca2)) := ⟨_, rfl⟩
 rw [<- E] at pz pr hb4 q_O_re ⊢
 clear l_z z_0 z_1 z_2 z_3 z_4 z_5 z_6 z_7 f0 f1 f2 f3 f4 f5 f6 f7 E
 clear hI hb
 have P_z := Hd pz
 have PR := Hd pr
 have HB := Hd hb4
 have O_re := Hd q_O_re
 clear pz pr hb4 q_O_re
 obtain ⟨l_z, z_0, z_1, z_2, z_3, z_4, z_5, z_6, z_7⟩ := P_z.out.facts
 go_wp2_with fail
 refine (H4.out wh4_0 _ O_re.out.at_).mono ?_
 rintro e wx5 ⟨rfl, hb⟩
 clear l_z z_0 z_1 z_2 z_3 z_4 z_5 z_6 z_7
 have P_z := Hd (P_z.out.below hb)
 have PR := Hd (PR.out.below hb)
 have O_re := Hd (O_re.out.below hb)
 have HB := Hd (Zb HB.out hb)
 clear hb
 go_wp2_with fail
 refine (H5.out wx5).mono ?_
 rintro e wx6 ⟨rfl, hb⟩
 have P_z := Hd (P_z.out.below hb)
 have PR := Hd (PR.out.below hb)
 have O_re := Hd (O_re.out.below hb)
 have HB := Hd (Zb HB.out hb)
 clear hb
 go_wp2_with fail
 have HS1 := Hd HB.out.size
 have T_re := Hd (fun g h => (O_re.out.mine g h).2)
 refine (H6.out wx6).mono ?_
 rintro e wx7 ⟨v, rfl, hI, hb⟩
 obtain ⟨Ab1, cb1, Ab2, cb2, rfl, -⟩ := hI.form
 have P_z := Hd (P_z.out.below hb)
 have PR := Hd (PR.out.below hb)
 have O_re := Hd (O_re.out.below hb)
 have HB := Hd (Zb HB.out hb)
 obtain ⟨l_z, z_0, z_1, z_2, z_3, z_4, z_5, z_6, z_7⟩ := P_z.out.facts
 obtain ⟨f0, f1, f2, f3, f4, f5, f6, f7⟩ := P_z.out.free
 have pz := P_z.out.im_ (.bool (decide (m < 0))) (.slice Ab1 (Za m.natAbs).length cb1) (.bool (decide (f < 0))) (.slice Ab2 (Za f.natAbs).length cb2)
 have pr := PR.out.far (ZJ wx7 b_z (.bool (decide (m < 0))) (.slice Ab1 (Za m.natAbs).length cb1) (.bool (decide (f < 0))) (.slice Ab2 (Za f.natAbs).length cb2)) (by have := N_z.out; omega)
 have hb4 := XJ HB.out (show w.heap.size <= b_z by have := N_z.out; omega) (.bool (decide (m < 0))) (.slice Ab1 (Za m.natAbs).length cb1) (.bool (decide (f < 0))) (.slice Ab2 (Za f.natAbs).length cb2)
 have q_O_re := O_re.out.other P_z.out.blk (by decide) (ZJ wx7 b_z (.bool (decide (m < 0))) (.slice Ab1 (Za m.natAbs).length cb1) (.bool (decide (f < 0))) (.slice Ab2 (Za f.natAbs).length cb2))
 have q_O_im := Ze.other (hI) P_z.out.blk (by decide) (ZJ wx7 b_z (.bool (decide (m < 0))) (.slice Ab1 (Za m.natAbs).length cb1) (.bool (decide (f < 0))) (.slice Ab2 (Za f.natAbs).length cb2))
 go_upto_region 14 with fail
 obtain ⟨wh7_1, E⟩ : ∃ Y, Y = ((((wx7.setCell ⟨b_z, 4, none⟩ (.bool (decide (m < 0)))).setCell ⟨b_z, 5, none⟩ (.slice Ab1 (Za m.natAbs).length cb1)).setCell ⟨b_z, 6, none⟩ (.bool (decide (f < 0)))).setCell ⟨b_z, 7, none⟩ (.slice Ab2 (Za f.natAbs).length cb2)) := ⟨_, rfl⟩
 rw [<- E] at pz pr hb4 q_O_re q_O_im ⊢
 clear l_z z_0 z_1 z_2 z_3 z_4 z_5 z_6 z_7 f0 f1 f2 f3 f4 f5 f6 f7 E
 clear hI hb
 have P_z := Hd pz
 have PR := Hd pr
 have HB := Hd hb4
 have O_re := Hd q_O_re
 have O_im := Hd q_O_im
 clear pz pr hb4 q_O_re q_O_im
 obtain ⟨l_z, z_0, z_1, z_2, z_3, z_4, z_5, z_6, z_7⟩ := P_z.out.facts
 go_wp2_with fail
 refine (H7.out wh7_1 _ O_im.out.at_).mono ?_
 rintro e wx8 ⟨rfl, hb⟩
 clear l_z z_0 z_1 z_2 z_3 z_4 z_5 z_6 z_7
 have P_z := Hd (P_z.out.below hb)
 have PR := Hd (PR.out.below hb)
 have O_re := Hd (O_re.out.below hb)
 have O_im := Hd (O_im.out.below hb)
 have HB := Hd (Zb HB.out hb)
 clear hb
 obtain ⟨l_z, z_0, z_1, z_2, z_3, z_4, z_5, z_6, z_7⟩ := P_z.out.facts
 go_wp2_with fail
 refine (H9.out wx8 w.heap.size _ HB.out.size (Zk.mk_up (O_re.out.base HS0.out) O_im.out HS1.out T_re.out)).mono ?_
 rintro e w9 ⟨v, rfl, hI, hb⟩
 obtain ⟨A6, c6, A7, c7, A8, c8, A9, c9, rfl, -⟩ := hI.form
 have pr := PR.out.below hb
 have hb9 := Zb HB.out hb
 obtain ⟨l_r, r0, r1, r2, r3, r4, r5, r6, r7⟩ := pr.facts
 obtain ⟨f0, f1, f2, f3, f4, f5, f6, f7⟩ := pr.free
 have HF := Hd (Jb hI pr hb9 (show w.heap.size <= w.heap.size by omega) (by decide))
 clear hb hb9 pr hI l_z z_0 z_1 z_2 z_3 z_4 z_5 z_6 z_7
 go_wp2_with fail
 obtain ⟨_, k0, k1, k2, k3, k4, k5, k6, k7⟩ := HF.out.1.facts
 exact bodyPost_ret (by simp [results, Tryz.results9, go_sem, k0, k1, k2, k3, k4, k5, k6, k7]) rfl ⟨_, rfl, HF.out.2.2, HF.out.2.1⟩

def RetRdG (w : World) (o : Option (Int × Int × Int × Int)) (b : Bool) (e : Ending) (w' : World) : Prop := ∃ n d m f v, e = .returned (.tuple #[v, .bool b]) /\ YI w' v n d m f /\ Below w.heap.size w w' /\ ∀ p, o = some p -> p = (n, d, m, f)
def RetGaussB (w : World) (n d m f : Int) (b : Bool) (e : Ending) (w' : World) : Prop := ∃ v, e = .returned (.tuple #[v, .bool b]) /\ YI w' v n d m f /\ Below w.heap.size w w'
def RetNoneG (w : World) (e : Ending) (w' : World) : Prop := ∃ n d m f, RetGaussB w n d m f false e w'
def bothO (o1 o2 : Option (Int × Int)) : Option (Int × Int × Int × Int) := o1.bind fun p => o2.map fun q => (p.1, p.2, q.1, q.2)
def splitL (l : List UInt8) : Nat := (Yk l).toNat

end Go.Proofs.YtdonecnhdkjniaaGreatDoor
