/- Several texts in one: FNamesW. -/
import Derived.Test.YtipmkkobdbgphaaGreatDoorPn34
import Derived.Test.YtipmkkobdbgphaaGreatDoorPnHd
import Derived.Test.YtipmkkobdbgphaaGreatDoorPn35
import Derived.Test.YtipmkkobdbgphaaGreatDoorPn37
import Derived.Test.YtipmkkobdbgphaaGreatDoorPn38
import Derived.Test.YtipmkkobdbgphaaGreatDoorPn39
set_option maxRecDepth 100000
set_option maxHeartbeats 8000000
/- FracNames: the walk. (Written by wip/frac/genfnames.py.) -/
namespace Go.Proofs.YtipmkkobdbgphaaGreatDoor
open Go.RowKit

theorem fine_mk {n d : Int} (fn : Fit n) (fd : Fit d) (hp : 0 < d) (hg : gcdZ n d = 1) : Fine n d := by
  refine ⟨?_, fn, fd, hp, hg⟩
  unfold chkE mkOk
  rw [fn.ok, fd.ok, ival_at, ival_at]
  simp only [Bool.and_self, if_true]
  rw [if_pos ⟨hp, hg⟩]
theorem math_Inf_neg (w : World) : Calls Tryz.prog 24 #[.int .i64 (-1)] w fun e w' => e = .returned (.float .f64 18442240474082181120) ∧ Below w.heap.size w w' := by
  have h2 : ∀ w : World, (callFunc 105 #[.int .u64 18442240474082181120]).run Tryz.prog w = .ok (.value (.float .f64 18442240474082181120)) w := fun w => ffrom 18442240474082181120 w
  go_enter Tryz.func24, Tryz.ntmps24
  go_wp2_with fail
  go_ret
  exact ⟨rfl, Below.refl _ _⟩
theorem near_third : Near ((1 : Int).natAbs * p2 1074) (3 : Int).natAbs (some 4599676419421066581) := by
  have h1 := fval_at (E := 1020) (k := 6004799503160661) (by omega) (by omega)
  have h2 := fval_next (E := 1020) (k := 6004799503160661) (by omega) (by omega)
  rw [show 1020 * 4503599627370496 + 6004799503160661 = 4599676419421066581 from rfl] at h1
  rw [show 1020 * 4503599627370496 + 6004799503160661 + 1 = 4599676419421066581 + 1 from rfl] at h2
  have e : p2 1074 = 18014398509481984 * p2 1020 := by
    rw [show 1074 = 54 + 1020 from rfl, p2_add]
    exact congrArg (· * p2 1020) (show p2 54 = 18014398509481984 by decide +kernel)
  have hp := p2_pos 1020
  have hu : upR ((1 : Int).natAbs * p2 1074) (3 : Int).natAbs 4599676419421066581 = 4599676419421066581 := by
    unfold upR
    rw [h1, h2, e]
    generalize p2 1020 = q at hp
    rw [if_neg]
    simp only [show (1 : Int).natAbs = 1 from rfl, show (3 : Int).natAbs = 3 from rfl]
    omega
  refine ⟨4599676419421066581, ⟨?_, ?_⟩, ?_⟩
  · rw [h1, e]
    generalize p2 1020 = q at hp
    simp only [show (1 : Int).natAbs = 1 from rfl, show (3 : Int).natAbs = 3 from rfl]
    omega
  · rw [h2, e]
    generalize p2 1020 = q at hp
    simp only [show (1 : Int).natAbs = 1 from rfl, show (3 : Int).natAbs = 3 from rfl]
    omega
  · rw [hu]
    rfl
theorem worth_tenth : fltN 4591870180066957722 = 3602879701896397 ∧ fltD 4591870180066957722 = 36028797018963968 := by
  have h := flt_tz (v := 4591870180066957722) (t := 55) (k := 1) (mm := 7205759403792794) (a := 3602879701896397) (by decide +kernel) (by decide +kernel) (by decide +kernel) (.inr (by decide))
  exact ⟨h.1, h.2.trans rfl⟩

theorem fnames_true (w : World) (htab : powTab w) (htz : tzTab w) :
    Calls Tryz.prog 7 #[] w fun e w' => e = .returned (.bool true) ∧ Below w.heap.size w w' := by
  obtain ⟨one, h_one⟩ : ∃ k : Int, k = 1 := ⟨_, rfl⟩
  obtain ⟨two, h_two⟩ : ∃ k : Int, k = 2 := ⟨_, rfl⟩
  obtain ⟨three, h_three⟩ : ∃ k : Int, k = 3 := ⟨_, rfl⟩
  obtain ⟨five, h_five⟩ : ∃ k : Int, k = 5 := ⟨_, rfl⟩
  obtain ⟨six, h_six⟩ : ∃ k : Int, k = 6 := ⟨_, rfl⟩
  obtain ⟨mone, h_mone⟩ : ∃ k : Int, k = -1 := ⟨_, rfl⟩
  obtain ⟨z, h_z⟩ : ∃ k : Int, k = 0 := ⟨_, rfl⟩
  obtain ⟨t1, h_t1⟩ : ∃ k : Int, k = 3602879701896397 := ⟨_, rfl⟩
  obtain ⟨t2, h_t2⟩ : ∃ k : Int, k = 36028797018963968 := ⟨_, rfl⟩
  have f_half : Fine one two := fine_mk (show lz one ≤ 2048 by rw [h_one]; decide +kernel) (show lz two ≤ 2048 by rw [h_two]; decide +kernel) (by rw [h_two]; decide) (by rw [h_one, h_two]; decide +kernel)
  have f_third : Fine one three := fine_mk (show lz one ≤ 2048 by rw [h_one]; decide +kernel) (show lz three ≤ 2048 by rw [h_three]; decide +kernel) (by rw [h_three]; decide) (by rw [h_one, h_three]; decide +kernel)
  have f_sum : Fine five six := fine_mk (show lz five ≤ 2048 by rw [h_five]; decide +kernel) (show lz six ≤ 2048 by rw [h_six]; decide +kernel) (by rw [h_six]; decide) (by rw [h_five, h_six]; decide +kernel)
  have f_nou : Fine z one := fine_mk (show lz z ≤ 2048 by rw [h_z]; decide +kernel) (show lz one ≤ 2048 by rw [h_one]; decide +kernel) (by rw [h_one]; decide) (by rw [h_z, h_one]; decide +kernel)
  have f_low : Fine mone two := fine_mk (show lz mone ≤ 2048 by rw [h_mone]; decide +kernel) (show lz two ≤ 2048 by rw [h_two]; decide +kernel) (by rw [h_two]; decide) (by rw [h_mone, h_two]; decide +kernel)
  have f_ten : Fine t1 t2 := fine_mk (show lz t1 ≤ 2048 by rw [h_t1]; decide +kernel) (show lz t2 ≤ 2048 by rw [h_t2]; decide +kernel) (by rw [h_t2]; decide) (by rw [h_t1, h_t2]; decide +kernel)
  have D1 : ∀ V : World, Calls Tryz.prog 38 #[.int .i64 1, .int .i64 2] V (RetFracOwn2 V.heap.size V one two 0) := fun V => by
    have h := frac_Of_ours 1 2 (by decide) (by decide) (by decide) (by decide) V
    rw [show zN 1 2 = one by rw [h_one]; decide +kernel, show zD 1 2 = two by rw [h_two]; decide +kernel, show zE 2 = 0 by decide] at h
    exact h
  have D2 : ∀ V : World, Calls Tryz.prog 38 #[.int .i64 1, .int .i64 3] V (RetFracOwn2 V.heap.size V one three 0) := fun V => by
    have h := frac_Of_ours 1 3 (by decide) (by decide) (by decide) (by decide) V
    rw [show zN 1 3 = one by rw [h_one]; decide +kernel, show zD 1 3 = three by rw [h_three]; decide +kernel, show zE 3 = 0 by decide] at h
    exact h
  have D3 := add_c (N := five) (D := six) (K := 0) f_half f_third (by rw [h_one, h_two, h_three, h_five]; decide +kernel) (by rw [h_one, h_two, h_three, h_six]; decide +kernel) (by rw [h_one, h_two, h_three]; decide +kernel)
  have D5 := sub_c (N := z) (D := one) (K := 0) f_half f_half (by rw [h_one, h_two, h_z]; decide +kernel) (by rw [h_one, h_two]; decide +kernel) (by rw [h_one, h_two]; decide +kernel)
  have D6 : OpC 40 one two z one z z 3 := by
    have h := quo_nought_c f_half f_nou (by rw [h_z])
    rw [show (0 : Int) = z from h_z.symm] at h
    exact h
  have D8 := sub_c (N := mone) (D := two) (K := 0) f_nou f_half (by rw [h_z, h_one, h_two, h_mone]; decide +kernel) (by rw [h_z, h_one, h_two]; decide +kernel) (by rw [h_z, h_one, h_two]; decide +kernel)
  have D7 : ∀ (V : World) (A B : Option Addr) (c e0 : Nat), Raw V A c (natL one.natAbs) → Raw V B e0 (natL two.natAbs) → Calls Tryz.prog 35 #[.agg #[.bool (decide (one < 0)), .slice A (natL one.natAbs).length c, .bool (decide (two < 0)), .slice B (natL two.natAbs).length e0]] V (RetFracOwn3 V.heap.size V z z false 0) := fun V A B c e0 a1 a2 => by
    have h := frac_Root_no2 one two 1 1 A B c e0 V a1 a2 (by rw [f_half.chk]; rfl) (by rw [h_one]; decide) (by rw [h_two]; decide) (Nat.le_trans f_half.num (by decide)) (Nat.le_trans f_half.den (by decide)) (by rw [h_one]; exact root_c1) (by rw [h_two]; exact root_c2) (by rw [h_one]; decide) (by rw [h_two]; decide)
    rw [h_z]
    exact h
  have D9 : ∀ (V : World) (A B : Option Addr) (c e0 : Nat), Raw V A c (natL mone.natAbs) → Raw V B e0 (natL two.natAbs) → Calls Tryz.prog 35 #[.agg #[.bool (decide (mone < 0)), .slice A (natL mone.natAbs).length c, .bool (decide (two < 0)), .slice B (natL two.natAbs).length e0]] V (RetFracOwn3 V.heap.size V z z false 1) := fun V A B c e0 a1 a2 => by
    have h := frac_Root_neg mone two A B c e0 V a1 a2 (by rw [f_low.chk]; rfl) (by rw [h_mone]; decide)
    rw [h_z]
    exact h
  have D10 : ∀ V : World, tzTab V → Calls Tryz.prog 11 #[.float .f64 4591870180066957722] V (RetFracOwn2 V.heap.size V t1 t2 0) := fun V t => by
    have h := frac_FromFloat_fin 4591870180066957722 (by decide) V (by decide) t
    rw [worth_tenth.1, worth_tenth.2, ← h_t1, ← h_t2] at h
    exact h
  have D13 : ∀ V : World, Calls Tryz.prog 11 #[.float .f64 18442240474082181120] V (RetFracOwn2 V.heap.size V z z 6) := fun V => by
    have h := frac_FromFloat_inf 18442240474082181120 (by decide) V (by decide)
    rw [h_z]
    exact h
  have x_D4 : fracText five six = [53, 47, 54] := by
    unfold fracText
    rw [if_neg (by rw [h_six]; decide), h_five, h_six, itoa_readZ (s := [53]) (by decide +kernel), itoa_readZ (s := [54]) (by decide +kernel)]
    rfl
  have D4 : ∀ (V : World) (A B : Option Addr) (c e0 : Nat), Raw V A c (natL five.natAbs) → Raw V B e0 (natL six.natAbs) → powTab V → Calls Tryz.prog 28 #[.agg #[.bool (decide (five < 0)), .slice A (natL five.natAbs).length c, .bool (decide (six < 0)), .slice B (natL six.natAbs).length e0]] V fun e w' => e = .returned (.tuple #[.string ⟨#[53, 47, 54]⟩, .int .i64 0]) ∧ Below V.heap.size V w' := fun V A B c e0 a1 a2 t => frac_Text_good five six ⟨#[53, 47, 54]⟩ A B c e0 V a1 a2 t f_sum.num f_sum.den f_sum.chk (by rw [x_D4]) (by decide)
  have x_D11 : fracText t1 t2 = [51, 54, 48, 50, 56, 55, 57, 55, 48, 49, 56, 57, 54, 51, 57, 55, 47, 51, 54, 48, 50, 56, 55, 57, 55, 48, 49, 56, 57, 54, 51, 57, 54, 56] := by
    unfold fracText
    rw [if_neg (by rw [h_t2]; decide), h_t1, h_t2, itoa_readZ (s := [51, 54, 48, 50, 56, 55, 57, 55, 48, 49, 56, 57, 54, 51, 57, 55]) (by decide +kernel), itoa_readZ (s := [51, 54, 48, 50, 56, 55, 57, 55, 48, 49, 56, 57, 54, 51, 57, 54, 56]) (by decide +kernel)]
    rfl
  have D11 : ∀ (V : World) (A B : Option Addr) (c e0 : Nat), Raw V A c (natL t1.natAbs) → Raw V B e0 (natL t2.natAbs) → powTab V → Calls Tryz.prog 28 #[.agg #[.bool (decide (t1 < 0)), .slice A (natL t1.natAbs).length c, .bool (decide (t2 < 0)), .slice B (natL t2.natAbs).length e0]] V fun e w' => e = .returned (.tuple #[.string ⟨#[51, 54, 48, 50, 56, 55, 57, 55, 48, 49, 56, 57, 54, 51, 57, 55, 47, 51, 54, 48, 50, 56, 55, 57, 55, 48, 49, 56, 57, 54, 51, 57, 54, 56]⟩, .int .i64 0]) ∧ Below V.heap.size V w' := fun V A B c e0 a1 a2 t => frac_Text_good t1 t2 ⟨#[51, 54, 48, 50, 56, 55, 57, 55, 48, 49, 56, 57, 54, 51, 57, 55, 47, 51, 54, 48, 50, 56, 55, 57, 55, 48, 49, 56, 57, 54, 51, 57, 54, 56]⟩ A B c e0 V a1 a2 t f_ten.num f_ten.den f_ten.chk (by rw [x_D11]) (by decide)
  have D12 : ∀ (V : World) (A B : Option Addr) (c e0 : Nat), Raw V A c (natL one.natAbs) → Raw V B e0 (natL three.natAbs) → Calls Tryz.prog 13 #[.agg #[.bool (decide (one < 0)), .slice A (natL one.natAbs).length c, .bool (decide (three < 0)), .slice B (natL three.natAbs).length e0]] V fun e w' => e = .returned (.tuple #[.float .f64 4599676419421066581, .int .i64 0]) ∧ Below V.heap.size V w' := fun V A B c e0 a1 a2 => by
    have hnear : Near (one.natAbs * p2 1074) three.natAbs (some 4599676419421066581) := by rw [h_one, h_three]; exact near_third
    have hb : nearB (decide (one < 0)) (some 4599676419421066581) = 4599676419421066581 := by rw [h_one]; rfl
    have h := frac_Float_all _ _ true true A B c e0 _ _ 4599676419421066581 (by rw [f_third.chk]; rfl) V a1 a2 (fun _ V' h g => by
      have h9 := ratio_Nearest one three A B c e0 V' h g f_third.pos f_third.num f_third.den _ hnear
      rw [hb] at h9
      exact h9)
    exact h
  have D17 : ∀ (V : World) (A B : Option Addr) (c e0 : Nat), Raw V A c (natL one.natAbs) → Raw V B e0 (natL two.natAbs) → Calls Tryz.prog 39 #[.agg #[.bool (decide (one < 0)), .slice A (natL one.natAbs).length c, .bool (decide (two < 0)), .slice B (natL two.natAbs).length e0], .agg #[.bool false, .slice none 0 0, .bool false, .slice none 0 0]] V (RetFracOwn2 V.heap.size V z z 1) := fun V A B c e0 a1 a2 => by
    have h := frac_Add_bad (decide (one < 0)) (decide (two < 0)) false false A B none none c e0 0 0 (natL one.natAbs) (natL two.natAbs) [] [] V a1 a2 (Raw.none_ V) (Raw.none_ V) (by rw [chk_zero_c]; simp)
    rw [h_z]
    exact h
  have D22 : ∀ V : World, Calls Tryz.prog 21 #[.agg #[.bool false, .slice none 0 0, .bool false, .slice none 0 0]] V fun e w' => e = .returned (.int .i64 1) ∧ Below V.heap.size V w' := fun V => by
    have h := frac_Check false false none none 0 0 [] [] V (Raw.none_ V) (Raw.none_ V)
    rw [chk_zero_c] at h
    exact h
  have D23 : ∀ V : World, Calls Tryz.prog 36 #[.agg #[.bool false, .slice none 0 0, .bool false, .slice none 0 0]] V fun e w' => e = .returned (.int .i64 0) ∧ Below V.heap.size V w' := fun V => frac_Sign_none V
  have D24 : ∀ (V : World) (A B : Option Addr) (c e0 : Nat), Raw V A c (natL z.natAbs) → Raw V B e0 (natL one.natAbs) → Calls Tryz.prog 21 #[.agg #[.bool (decide (z < 0)), .slice A (natL z.natAbs).length c, .bool (decide (one < 0)), .slice B (natL one.natAbs).length e0]] V fun e w' => e = .returned (.int .i64 0) ∧ Below V.heap.size V w' := fun V A B c e0 a1 a2 => by
    have h := frac_Check (decide (z < 0)) (decide (one < 0)) A B c e0 _ _ V a1 a2
    rw [f_nou.chk] at h
    exact h
  have D25 : ∀ V : World, ∀ (A B A2 B2 : Option Addr) (c e0 c2 e2 : Nat), Raw V A c (natL one.natAbs) → Raw V B e0 (natL three.natAbs) → Raw V A2 c2 (natL one.natAbs) → Raw V B2 e2 (natL two.natAbs) → Calls Tryz.prog 26 #[.agg #[.bool (decide (one < 0)), .slice A (natL one.natAbs).length c, .bool (decide (three < 0)), .slice B (natL three.natAbs).length e0], .agg #[.bool (decide (one < 0)), .slice A2 (natL one.natAbs).length c2, .bool (decide (two < 0)), .slice B2 (natL two.natAbs).length e2]] V fun e w' => e = .returned (.int .i64 (-1)) ∧ Below V.heap.size V w' := fun V A B A2 B2 c e0 c2 e2 a1 a2 a3 a4 => frac_Cmp_good one three one two (-1) A B A2 B2 c e0 c2 e2 V a1 a2 a3 a4 f_third f_half (by rw [h_one, h_three, h_two]; decide)
  have D14 : ∀ V : World, Calls Tryz.prog 30 #[.string ⟨#[54, 47, 52]⟩] V (RetFracOwn2 V.heap.size V z z 5) := fun V => by
    have h := frac_Parse ⟨#[54, 47, 52]⟩ V
    rw [show fprN (⟨#[54, 47, 52]⟩ : ByteArray).data.toList = z by rw [h_z]; decide +kernel, show fprD (⟨#[54, 47, 52]⟩ : ByteArray).data.toList = z by rw [h_z]; decide +kernel, show fprK (⟨#[54, 47, 52]⟩ : ByteArray).data.toList = 5 by decide +kernel] at h
    exact h
  have D15 : ∀ V : World, Calls Tryz.prog 30 #[.string ⟨#[51, 47, 49]⟩] V (RetFracOwn2 V.heap.size V z z 5) := fun V => by
    have h := frac_Parse ⟨#[51, 47, 49]⟩ V
    rw [show fprN (⟨#[51, 47, 49]⟩ : ByteArray).data.toList = z by rw [h_z]; decide +kernel, show fprD (⟨#[51, 47, 49]⟩ : ByteArray).data.toList = z by rw [h_z]; decide +kernel, show fprK (⟨#[51, 47, 49]⟩ : ByteArray).data.toList = 5 by decide +kernel] at h
    exact h
  have D16 : ∀ V : World, Calls Tryz.prog 30 #[.string ⟨#[45, 48]⟩] V (RetFracOwn2 V.heap.size V z z 5) := fun V => by
    have h := frac_Parse ⟨#[45, 48]⟩ V
    rw [show fprN (⟨#[45, 48]⟩ : ByteArray).data.toList = z by rw [h_z]; decide +kernel, show fprD (⟨#[45, 48]⟩ : ByteArray).data.toList = z by rw [h_z]; decide +kernel, show fprK (⟨#[45, 48]⟩ : ByteArray).data.toList = 5 by decide +kernel] at h
    exact h
  have D18 : ∀ V : World, Calls Tryz.prog 30 #[.string ⟨#[48]⟩] V (RetFracOwn2 V.heap.size V z one 0) := fun V => by
    have h := frac_Parse ⟨#[48]⟩ V
    rw [show fprN (⟨#[48]⟩ : ByteArray).data.toList = z by rw [h_z]; decide +kernel, show fprD (⟨#[48]⟩ : ByteArray).data.toList = one by rw [h_one]; decide +kernel, show fprK (⟨#[48]⟩ : ByteArray).data.toList = 0 by decide +kernel] at h
    exact h
  have H1 := Hd D1
  have H2 := Hd D2
  have H3 := Hd D3
  have H4 := Hd D4
  have H5 := Hd D5
  have H6 := Hd D6
  have H7 := Hd D7
  have H8 := Hd D8
  have H9 := Hd D9
  have H10 := Hd D10
  have H11 := Hd D11
  have H12 := Hd D12
  have H13 := Hd D13
  have H14 := Hd D14
  have H15 := Hd D15
  have H16 := Hd D16
  have H17 := Hd D17
  have H18 := Hd D18
  have H22 := Hd D22
  have H23 := Hd D23
  have H24 := Hd D24
  have H25 := Hd D25
  have HZ0 := Hd h_z
  have HT := Hd htab
  have HZ := Hd htz
  have HB := Hd (Below.refl w.heap.size w)
  clear D1 D2 D3 D4 D5 D6 D7 D8 D9 D10 D11 D12 D13 D14 D15 D16 D17 D18 D22 D23 D24 D25 x_D4 x_D11 f_half f_third f_sum f_nou f_low f_ten h_one h_two h_three h_five h_six h_mone h_z h_t1 h_t2 htab htz
  go_enter Tryz.func7, Tryz.ntmps7
  go_wp2_with fail
  refine (H1.out w).mono ?_
  rintro e wx1 ⟨v, rfl, hI, hb⟩
  obtain ⟨A1, c1, B1, e1, rfl, r1, r2, -⟩ := hI.form
  have O_VH := Hd (And.intro r1.rawAt r2.rawAt)
  clear hI r1 r2
  have HS_wx1 := Hd (show w.heap.size ≤ wx1.heap.size from hb.size)
  have HT := Hd (HT.out.below2 hb)
  have HZ := Hd (HZ.out.below hb)
  have HB := Hd (belowTo HB.out hb)
  have ha := (Below.refl wx1.heap.size wx1).alloc (Nat.le_refl _) (.cells #[.bool (decide (one < 0)), .slice A1 (natL one.natAbs).length c1, .bool (decide (two < 0)), .slice B1 (natL two.natAbs).length e1] 27)
  have hn := FV.new O_VH.out.1 O_VH.out.2
  have hz : (wx1.alloc (.cells #[.bool (decide (one < 0)), .slice A1 (natL one.natAbs).length c1, .bool (decide (two < 0)), .slice B1 (natL two.natAbs).length e1] 27)).heap.size = wx1.heap.size + 1 := by simp
  go_upto_region 2 with fail
  obtain ⟨wy2, E⟩ : ∃ W, W = wx1.alloc (.cells #[.bool (decide (one < 0)), .slice A1 (natL one.natAbs).length c1, .bool (decide (two < 0)), .slice B1 (natL two.natAbs).length e1] 27) := ⟨_, rfl⟩
  obtain ⟨q2, hq⟩ : ∃ q, q = wx1.heap.size := ⟨_, rfl⟩
  rw [← E] at ha
  rw [← E, ← hq] at hn hz ⊢
  have HZ_wy2 := Hd (And.intro hq hz)
  have VH := Hd hn
  have HT := Hd (HT.out.below2 ha)
  have HZ := Hd (HZ.out.below ha)
  have HB := Hd (belowTo HB.out ha)
  clear ha hn hz hq E
  clear O_VH
  go_wp2_with fail
  refine (H2.out wy2).mono ?_
  rintro e wx3 ⟨v, rfl, hI, hb⟩
  obtain ⟨A2, c2, B2, e2, rfl, r1, r2, -⟩ := hI.form
  have O_VT := Hd (And.intro r1.rawAt r2.rawAt)
  clear hI r1 r2
  have HS_wx3 := Hd (show wy2.heap.size ≤ wx3.heap.size from hb.size)
  have HT := Hd (HT.out.below2 hb)
  have HZ := Hd (HZ.out.below hb)
  have VH := Hd (VH.out.below hb)
  have HB := Hd (belowTo HB.out hb)
  have ha := (Below.refl wx3.heap.size wx3).alloc (Nat.le_refl _) (.cells #[.bool (decide (one < 0)), .slice A2 (natL one.natAbs).length c2, .bool (decide (three < 0)), .slice B2 (natL three.natAbs).length e2] 27)
  have hn := FV.new O_VT.out.1 O_VT.out.2
  have hz : (wx3.alloc (.cells #[.bool (decide (one < 0)), .slice A2 (natL one.natAbs).length c2, .bool (decide (three < 0)), .slice B2 (natL three.natAbs).length e2] 27)).heap.size = wx3.heap.size + 1 := by simp
  go_upto_region 3 with fail
  obtain ⟨wy4, E⟩ : ∃ W, W = wx3.alloc (.cells #[.bool (decide (one < 0)), .slice A2 (natL one.natAbs).length c2, .bool (decide (three < 0)), .slice B2 (natL three.natAbs).length e2] 27) := ⟨_, rfl⟩
  obtain ⟨q4, hq⟩ : ∃ q, q = wx3.heap.size := ⟨_, rfl⟩
  rw [← E] at ha
  rw [← E, ← hq] at hn hz ⊢
  have HZ_wy4 := Hd (And.intro hq hz)
  have VT := Hd hn
  have HT := Hd (HT.out.below2 ha)
  have HZ := Hd (HZ.out.below ha)
  have VH := Hd (VH.out.below ha)
  have HB := Hd (belowTo HB.out ha)
  clear ha hn hz hq E
  clear O_VT
  obtain ⟨l_x, x0, x1, x2, x3, -, -, -, -⟩ := VH.out.quad.facts
  obtain ⟨l_y, y0, y1, y2, y3, -, -, -, -⟩ := VT.out.quad.facts
  go_wp2_with fail
  refine (H3.out wy4 A1 B1 A2 B2 c1 e1 c2 e2 VH.out.num VH.out.den VT.out.num VT.out.den).mono ?_
  rintro e wx5 ⟨v, rfl, hI, hb⟩
  clear l_x x0 x1 x2 x3 l_y y0 y1 y2 y3
  obtain ⟨A3, c3, B3, e3, rfl, r1, r2, -⟩ := hI.form
  have O_VS := Hd (And.intro r1.rawAt r2.rawAt)
  clear hI r1 r2
  have HS_wx5 := Hd (show wy4.heap.size ≤ wx5.heap.size from hb.size)
  have HT := Hd (HT.out.below2 hb)
  have HZ := Hd (HZ.out.below hb)
  have VH := Hd (VH.out.below hb)
  have VT := Hd (VT.out.below hb)
  have HB := Hd (belowTo HB.out hb)
  have ha := (Below.refl wx5.heap.size wx5).alloc (Nat.le_refl _) (.cells #[.bool (decide (five < 0)), .slice A3 (natL five.natAbs).length c3, .bool (decide (six < 0)), .slice B3 (natL six.natAbs).length e3] 27)
  have hn := FV.new O_VS.out.1 O_VS.out.2
  have hz : (wx5.alloc (.cells #[.bool (decide (five < 0)), .slice A3 (natL five.natAbs).length c3, .bool (decide (six < 0)), .slice B3 (natL six.natAbs).length e3] 27)).heap.size = wx5.heap.size + 1 := by simp
  go_upto_region 4 with fail
  obtain ⟨wy6, E⟩ : ∃ W, W = wx5.alloc (.cells #[.bool (decide (five < 0)), .slice A3 (natL five.natAbs).length c3, .bool (decide (six < 0)), .slice B3 (natL six.natAbs).length e3] 27) := ⟨_, rfl⟩
  obtain ⟨q6, hq⟩ : ∃ q, q = wx5.heap.size := ⟨_, rfl⟩
  rw [← E] at ha
  rw [← E, ← hq] at hn hz ⊢
  have HZ_wy6 := Hd (And.intro hq hz)
  have VS := Hd hn
  have HT := Hd (HT.out.below2 ha)
  have HZ := Hd (HZ.out.below ha)
  have VH := Hd (VH.out.below ha)
  have VT := Hd (VT.out.below ha)
  have HB := Hd (belowTo HB.out ha)
  clear ha hn hz hq E
  clear O_VS
  obtain ⟨l_x, x0, x1, x2, x3, -, -, -, -⟩ := VS.out.quad.facts
  go_wp2_with fail
  refine (H4.out wy6 A3 B3 c3 e3 VS.out.num VS.out.den HT.out).mono ?_
  rintro e wx7 ⟨rfl, hb⟩
  clear l_x x0 x1 x2 x3
  have HS_wx7 := Hd (show wy6.heap.size ≤ wx7.heap.size from hb.size)
  have HT := Hd (HT.out.below2 hb)
  have HZ := Hd (HZ.out.below hb)
  have VH := Hd (VH.out.below hb)
  have VT := Hd (VT.out.below hb)
  have VS := Hd (VS.out.below hb)
  have HB := Hd (belowTo HB.out hb)
  obtain ⟨l_x, x0, x1, x2, x3, -, -, -, -⟩ := VH.out.quad.facts
  go_wp2_with fail
  refine (H5.out wx7 A1 B1 A1 B1 c1 e1 c1 e1 VH.out.num VH.out.den VH.out.num VH.out.den).mono ?_
  rintro e wx8 ⟨v, rfl, hI, hb⟩
  clear l_x x0 x1 x2 x3
  obtain ⟨A4, c4, B4, e4, rfl, r1, r2, -⟩ := hI.form
  have O_VN := Hd (And.intro r1.rawAt r2.rawAt)
  clear hI r1 r2
  have HS_wx8 := Hd (show wx7.heap.size ≤ wx8.heap.size from hb.size)
  have HT := Hd (HT.out.below2 hb)
  have HZ := Hd (HZ.out.below hb)
  have VH := Hd (VH.out.below hb)
  have VT := Hd (VT.out.below hb)
  have VS := Hd (VS.out.below hb)
  have HB := Hd (belowTo HB.out hb)
  have ha := (Below.refl wx8.heap.size wx8).alloc (Nat.le_refl _) (.cells #[.bool (decide (z < 0)), .slice A4 (natL z.natAbs).length c4, .bool (decide (one < 0)), .slice B4 (natL one.natAbs).length e4] 27)
  have hn := FV.new O_VN.out.1 O_VN.out.2
  have hz : (wx8.alloc (.cells #[.bool (decide (z < 0)), .slice A4 (natL z.natAbs).length c4, .bool (decide (one < 0)), .slice B4 (natL one.natAbs).length e4] 27)).heap.size = wx8.heap.size + 1 := by simp
  go_upto_region 6 with fail
  obtain ⟨wy9, E⟩ : ∃ W, W = wx8.alloc (.cells #[.bool (decide (z < 0)), .slice A4 (natL z.natAbs).length c4, .bool (decide (one < 0)), .slice B4 (natL one.natAbs).length e4] 27) := ⟨_, rfl⟩
  obtain ⟨q9, hq⟩ : ∃ q, q = wx8.heap.size := ⟨_, rfl⟩
  rw [← E] at ha
  rw [← E, ← hq] at hn hz ⊢
  have HZ_wy9 := Hd (And.intro hq hz)
  have VN := Hd hn
  have HT := Hd (HT.out.below2 ha)
  have HZ := Hd (HZ.out.below ha)
  have VH := Hd (VH.out.below ha)
  have VT := Hd (VT.out.below ha)
  have VS := Hd (VS.out.below ha)
  have HB := Hd (belowTo HB.out ha)
  clear ha hn hz hq E
  clear O_VN
  clear VS
  obtain ⟨l_x, x0, x1, x2, x3, -, -, -, -⟩ := VH.out.quad.facts
  obtain ⟨l_y, y0, y1, y2, y3, -, -, -, -⟩ := VN.out.quad.facts
  go_wp2_with fail
  refine (H6.out wy9 A1 B1 A4 B4 c1 e1 c4 e4 VH.out.num VH.out.den VN.out.num VN.out.den).mono ?_
  rintro e wx10 ⟨v, rfl, hI, hb⟩
  clear l_x x0 x1 x2 x3 l_y y0 y1 y2 y3
  obtain ⟨A5, c5, B5, e5, rfl, r1, r2, -⟩ := hI.form
  have O_VQ := Hd (And.intro r1.rawAt r2.rawAt)
  clear hI r1 r2
  have HS_wx10 := Hd (show wy9.heap.size ≤ wx10.heap.size from hb.size)
  have HT := Hd (HT.out.below2 hb)
  have HZ := Hd (HZ.out.below hb)
  have VH := Hd (VH.out.below hb)
  have VT := Hd (VT.out.below hb)
  have VN := Hd (VN.out.below hb)
  have HB := Hd (belowTo HB.out hb)
  have ha := (Below.refl wx10.heap.size wx10).alloc (Nat.le_refl _) (.cells #[.bool (decide (z < 0)), .slice A5 (natL z.natAbs).length c5, .bool (decide (z < 0)), .slice B5 (natL z.natAbs).length e5] 27)
  have hn := FV.new O_VQ.out.1 O_VQ.out.2
  have hz : (wx10.alloc (.cells #[.bool (decide (z < 0)), .slice A5 (natL z.natAbs).length c5, .bool (decide (z < 0)), .slice B5 (natL z.natAbs).length e5] 27)).heap.size = wx10.heap.size + 1 := by simp
  go_upto_region 7 with fail
  obtain ⟨wy11, E⟩ : ∃ W, W = wx10.alloc (.cells #[.bool (decide (z < 0)), .slice A5 (natL z.natAbs).length c5, .bool (decide (z < 0)), .slice B5 (natL z.natAbs).length e5] 27) := ⟨_, rfl⟩
  obtain ⟨q11, hq⟩ : ∃ q, q = wx10.heap.size := ⟨_, rfl⟩
  rw [← E] at ha
  rw [← E, ← hq] at hn hz ⊢
  have HZ_wy11 := Hd (And.intro hq hz)
  have VQ := Hd hn
  have HT := Hd (HT.out.below2 ha)
  have HZ := Hd (HZ.out.below ha)
  have VH := Hd (VH.out.below ha)
  have VT := Hd (VT.out.below ha)
  have VN := Hd (VN.out.below ha)
  have HB := Hd (belowTo HB.out ha)
  clear ha hn hz hq E
  clear O_VQ
  clear VQ
  obtain ⟨l_x, x0, x1, x2, x3, -, -, -, -⟩ := VH.out.quad.facts
  go_wp2_with fail
  refine (H7.out wy11 A1 B1 c1 e1 VH.out.num VH.out.den).mono ?_
  rintro e wx12 ⟨v, rfl, hI, hb⟩
  clear l_x x0 x1 x2 x3
  obtain ⟨A6, c6, B6, e6, rfl, r1, r2, -⟩ := hI.form
  have O_VR := Hd (And.intro r1.rawAt r2.rawAt)
  clear hI r1 r2
  have HS_wx12 := Hd (show wy11.heap.size ≤ wx12.heap.size from hb.size)
  have HT := Hd (HT.out.below2 hb)
  have HZ := Hd (HZ.out.below hb)
  have VH := Hd (VH.out.below hb)
  have VT := Hd (VT.out.below hb)
  have VN := Hd (VN.out.below hb)
  have HB := Hd (belowTo HB.out hb)
  have ha := (Below.refl wx12.heap.size wx12).alloc (Nat.le_refl _) (.cells #[.bool (decide (z < 0)), .slice A6 (natL z.natAbs).length c6, .bool (decide (z < 0)), .slice B6 (natL z.natAbs).length e6] 27)
  have hn := FV.new O_VR.out.1 O_VR.out.2
  have hz : (wx12.alloc (.cells #[.bool (decide (z < 0)), .slice A6 (natL z.natAbs).length c6, .bool (decide (z < 0)), .slice B6 (natL z.natAbs).length e6] 27)).heap.size = wx12.heap.size + 1 := by simp
  go_upto_region 8 with fail
  obtain ⟨wy13, E⟩ : ∃ W, W = wx12.alloc (.cells #[.bool (decide (z < 0)), .slice A6 (natL z.natAbs).length c6, .bool (decide (z < 0)), .slice B6 (natL z.natAbs).length e6] 27) := ⟨_, rfl⟩
  obtain ⟨q13, hq⟩ : ∃ q, q = wx12.heap.size := ⟨_, rfl⟩
  rw [← E] at ha
  rw [← E, ← hq] at hn hz ⊢
  have HZ_wy13 := Hd (And.intro hq hz)
  have VR := Hd hn
  have HT := Hd (HT.out.below2 ha)
  have HZ := Hd (HZ.out.below ha)
  have VH := Hd (VH.out.below ha)
  have VT := Hd (VT.out.below ha)
  have VN := Hd (VN.out.below ha)
  have HB := Hd (belowTo HB.out ha)
  clear ha hn hz hq E
  clear O_VR
  obtain ⟨l_x, x0, x1, x2, x3, -, -, -, -⟩ := VN.out.quad.facts
  obtain ⟨l_y, y0, y1, y2, y3, -, -, -, -⟩ := VH.out.quad.facts
  go_wp2_with fail
  refine (H8.out wy13 A4 B4 A1 B1 c4 e4 c1 e1 VN.out.num VN.out.den VH.out.num VH.out.den).mono ?_
  rintro e wx14 ⟨v, rfl, hI, hb⟩
  clear l_x x0 x1 x2 x3 l_y y0 y1 y2 y3
  obtain ⟨A7, c7, B7, e7, rfl, r1, r2, -⟩ := hI.form
  have O_VL := Hd (And.intro r1.rawAt r2.rawAt)
  clear hI r1 r2
  have HS_wx14 := Hd (show wy13.heap.size ≤ wx14.heap.size from hb.size)
  have HT := Hd (HT.out.below2 hb)
  have HZ := Hd (HZ.out.below hb)
  have VH := Hd (VH.out.below hb)
  have VT := Hd (VT.out.below hb)
  have VN := Hd (VN.out.below hb)
  have VR := Hd (VR.out.below hb)
  have HB := Hd (belowTo HB.out hb)
  have ha := (Below.refl wx14.heap.size wx14).alloc (Nat.le_refl _) (.cells #[.bool (decide (mone < 0)), .slice A7 (natL mone.natAbs).length c7, .bool (decide (two < 0)), .slice B7 (natL two.natAbs).length e7] 27)
  have hn := FV.new O_VL.out.1 O_VL.out.2
  have hz : (wx14.alloc (.cells #[.bool (decide (mone < 0)), .slice A7 (natL mone.natAbs).length c7, .bool (decide (two < 0)), .slice B7 (natL two.natAbs).length e7] 27)).heap.size = wx14.heap.size + 1 := by simp
  go_upto_region 9 with fail
  obtain ⟨wy15, E⟩ : ∃ W, W = wx14.alloc (.cells #[.bool (decide (mone < 0)), .slice A7 (natL mone.natAbs).length c7, .bool (decide (two < 0)), .slice B7 (natL two.natAbs).length e7] 27) := ⟨_, rfl⟩
  obtain ⟨q15, hq⟩ : ∃ q, q = wx14.heap.size := ⟨_, rfl⟩
  rw [← E] at ha
  rw [← E, ← hq] at hn hz ⊢
  have HZ_wy15 := Hd (And.intro hq hz)
  have VL := Hd hn
  have HT := Hd (HT.out.below2 ha)
  have HZ := Hd (HZ.out.below ha)
  have VH := Hd (VH.out.below ha)
  have VT := Hd (VT.out.below ha)
  have VN := Hd (VN.out.below ha)
  have VR := Hd (VR.out.below ha)
  have HB := Hd (belowTo HB.out ha)
  clear ha hn hz hq E
  clear O_VL
  obtain ⟨l_x, x0, x1, x2, x3, -, -, -, -⟩ := VL.out.quad.facts
  go_wp2_with fail
  refine (H9.out wy15 A7 B7 c7 e7 VL.out.num VL.out.den).mono ?_
  rintro e wx16 ⟨v, rfl, hI, hb⟩
  clear l_x x0 x1 x2 x3
  obtain ⟨A8, c8, B8, e8, rfl, r1, r2, -⟩ := hI.form
  have O_VQ := Hd (And.intro r1.rawAt r2.rawAt)
  clear hI r1 r2
  have HS_wx16 := Hd (show wy15.heap.size ≤ wx16.heap.size from hb.size)
  have HT := Hd (HT.out.below2 hb)
  have HZ := Hd (HZ.out.below hb)
  have VH := Hd (VH.out.below hb)
  have VT := Hd (VT.out.below hb)
  have VN := Hd (VN.out.below hb)
  have VR := Hd (VR.out.below hb)
  have VL := Hd (VL.out.below hb)
  have HB := Hd (belowTo HB.out hb)
  have ha := (Below.refl wx16.heap.size wx16).alloc (Nat.le_refl _) (.cells #[.bool (decide (z < 0)), .slice A8 (natL z.natAbs).length c8, .bool (decide (z < 0)), .slice B8 (natL z.natAbs).length e8] 27)
  have hn := FV.new O_VQ.out.1 O_VQ.out.2
  have hz : (wx16.alloc (.cells #[.bool (decide (z < 0)), .slice A8 (natL z.natAbs).length c8, .bool (decide (z < 0)), .slice B8 (natL z.natAbs).length e8] 27)).heap.size = wx16.heap.size + 1 := by simp
  go_upto_region 10 with fail
  obtain ⟨wy17, E⟩ : ∃ W, W = wx16.alloc (.cells #[.bool (decide (z < 0)), .slice A8 (natL z.natAbs).length c8, .bool (decide (z < 0)), .slice B8 (natL z.natAbs).length e8] 27) := ⟨_, rfl⟩
  obtain ⟨q17, hq⟩ : ∃ q, q = wx16.heap.size := ⟨_, rfl⟩
  rw [← E] at ha
  rw [← E, ← hq] at hn hz ⊢
  have HZ_wy17 := Hd (And.intro hq hz)
  have VQ := Hd hn
  have HT := Hd (HT.out.below2 ha)
  have HZ := Hd (HZ.out.below ha)
  have VH := Hd (VH.out.below ha)
  have VT := Hd (VT.out.below ha)
  have VN := Hd (VN.out.below ha)
  have VR := Hd (VR.out.below ha)
  have VL := Hd (VL.out.below ha)
  have HB := Hd (belowTo HB.out ha)
  clear ha hn hz hq E
  clear O_VQ
  clear VQ VL
  go_wp2_with fail
  refine (H10.out wy17 HZ.out).mono ?_
  rintro e wx18 ⟨v, rfl, hI, hb⟩
  obtain ⟨A9, c9, B9, e9, rfl, r1, r2, -⟩ := hI.form
  have O_VE := Hd (And.intro r1.rawAt r2.rawAt)
  clear hI r1 r2
  have HS_wx18 := Hd (show wy17.heap.size ≤ wx18.heap.size from hb.size)
  have HT := Hd (HT.out.below2 hb)
  have HZ := Hd (HZ.out.below hb)
  have VH := Hd (VH.out.below hb)
  have VT := Hd (VT.out.below hb)
  have VN := Hd (VN.out.below hb)
  have VR := Hd (VR.out.below hb)
  have HB := Hd (belowTo HB.out hb)
  have ha := (Below.refl wx18.heap.size wx18).alloc (Nat.le_refl _) (.cells #[.bool (decide (t1 < 0)), .slice A9 (natL t1.natAbs).length c9, .bool (decide (t2 < 0)), .slice B9 (natL t2.natAbs).length e9] 27)
  have hn := FV.new O_VE.out.1 O_VE.out.2
  have hz : (wx18.alloc (.cells #[.bool (decide (t1 < 0)), .slice A9 (natL t1.natAbs).length c9, .bool (decide (t2 < 0)), .slice B9 (natL t2.natAbs).length e9] 27)).heap.size = wx18.heap.size + 1 := by simp
  go_upto_region 11 with fail
  obtain ⟨wy19, E⟩ : ∃ W, W = wx18.alloc (.cells #[.bool (decide (t1 < 0)), .slice A9 (natL t1.natAbs).length c9, .bool (decide (t2 < 0)), .slice B9 (natL t2.natAbs).length e9] 27) := ⟨_, rfl⟩
  obtain ⟨q19, hq⟩ : ∃ q, q = wx18.heap.size := ⟨_, rfl⟩
  rw [← E] at ha
  rw [← E, ← hq] at hn hz ⊢
  have HZ_wy19 := Hd (And.intro hq hz)
  have VE := Hd hn
  have HT := Hd (HT.out.below2 ha)
  have HZ := Hd (HZ.out.below ha)
  have VH := Hd (VH.out.below ha)
  have VT := Hd (VT.out.below ha)
  have VN := Hd (VN.out.below ha)
  have VR := Hd (VR.out.below ha)
  have HB := Hd (belowTo HB.out ha)
  clear ha hn hz hq E
  clear O_VE
  obtain ⟨l_x, x0, x1, x2, x3, -, -, -, -⟩ := VE.out.quad.facts
  go_wp2_with fail
  refine (H11.out wy19 A9 B9 c9 e9 VE.out.num VE.out.den HT.out).mono ?_
  rintro e wx20 ⟨rfl, hb⟩
  clear l_x x0 x1 x2 x3
  have HS_wx20 := Hd (show wy19.heap.size ≤ wx20.heap.size from hb.size)
  have HT := Hd (HT.out.below2 hb)
  have HZ := Hd (HZ.out.below hb)
  have VH := Hd (VH.out.below hb)
  have VT := Hd (VT.out.below hb)
  have VN := Hd (VN.out.below hb)
  have VR := Hd (VR.out.below hb)
  have VE := Hd (VE.out.below hb)
  have HB := Hd (belowTo HB.out hb)
  clear VE
  obtain ⟨l_x, x0, x1, x2, x3, -, -, -, -⟩ := VT.out.quad.facts
  go_wp2_with fail
  refine (H12.out wx20 A2 B2 c2 e2 VT.out.num VT.out.den).mono ?_
  rintro e wx21 ⟨rfl, hb⟩
  clear l_x x0 x1 x2 x3
  have HS_wx21 := Hd (show wx20.heap.size ≤ wx21.heap.size from hb.size)
  have HT := Hd (HT.out.below2 hb)
  have HZ := Hd (HZ.out.below hb)
  have VH := Hd (VH.out.below hb)
  have VT := Hd (VT.out.below hb)
  have VN := Hd (VN.out.below hb)
  have VR := Hd (VR.out.below hb)
  have HB := Hd (belowTo HB.out hb)
  go_wp2_with fail
  refine (math_Inf_neg wx21).mono ?_
  rintro e wx22 ⟨rfl, hb⟩
  have HS_wx22 := Hd (show wx21.heap.size ≤ wx22.heap.size from hb.size)
  have HT := Hd (HT.out.below2 hb)
  have HZ := Hd (HZ.out.below hb)
  have VH := Hd (VH.out.below hb)
  have VT := Hd (VT.out.below hb)
  have VN := Hd (VN.out.below hb)
  have VR := Hd (VR.out.below hb)
  have HB := Hd (belowTo HB.out hb)
  go_wp2_with fail
  refine (H13.out wx22).mono ?_
  rintro e wx23 ⟨v, rfl, hI, hb⟩
  obtain ⟨A10, c10, B10, e10, rfl, r1, r2, -⟩ := hI.form
  have O_VQ := Hd (And.intro r1.rawAt r2.rawAt)
  clear hI r1 r2
  have HS_wx23 := Hd (show wx22.heap.size ≤ wx23.heap.size from hb.size)
  have HT := Hd (HT.out.below2 hb)
  have HZ := Hd (HZ.out.below hb)
  have VH := Hd (VH.out.below hb)
  have VT := Hd (VT.out.below hb)
  have VN := Hd (VN.out.below hb)
  have VR := Hd (VR.out.below hb)
  have HB := Hd (belowTo HB.out hb)
  have ha := (Below.refl wx23.heap.size wx23).alloc (Nat.le_refl _) (.cells #[.bool (decide (z < 0)), .slice A10 (natL z.natAbs).length c10, .bool (decide (z < 0)), .slice B10 (natL z.natAbs).length e10] 27)
  have hn := FV.new O_VQ.out.1 O_VQ.out.2
  have hz : (wx23.alloc (.cells #[.bool (decide (z < 0)), .slice A10 (natL z.natAbs).length c10, .bool (decide (z < 0)), .slice B10 (natL z.natAbs).length e10] 27)).heap.size = wx23.heap.size + 1 := by simp
  go_upto_region 14 with fail
  obtain ⟨wy24, E⟩ : ∃ W, W = wx23.alloc (.cells #[.bool (decide (z < 0)), .slice A10 (natL z.natAbs).length c10, .bool (decide (z < 0)), .slice B10 (natL z.natAbs).length e10] 27) := ⟨_, rfl⟩
  obtain ⟨q24, hq⟩ : ∃ q, q = wx23.heap.size := ⟨_, rfl⟩
  rw [← E] at ha
  rw [← E, ← hq] at hn hz ⊢
  have HZ_wy24 := Hd (And.intro hq hz)
  have VQ := Hd hn
  have HT := Hd (HT.out.below2 ha)
  have HZ := Hd (HZ.out.below ha)
  have VH := Hd (VH.out.below ha)
  have VT := Hd (VT.out.below ha)
  have VN := Hd (VN.out.below ha)
  have VR := Hd (VR.out.below ha)
  have HB := Hd (belowTo HB.out ha)
  clear ha hn hz hq E
  clear O_VQ
  clear VQ
  go_wp2_with fail
  refine (H14.out wy24).mono ?_
  rintro e wx25 ⟨v, rfl, hI, hb⟩
  obtain ⟨A11, c11, B11, e11, rfl, r1, r2, -⟩ := hI.form
  have O_VQ := Hd (And.intro r1.rawAt r2.rawAt)
  clear hI r1 r2
  have HS_wx25 := Hd (show wy24.heap.size ≤ wx25.heap.size from hb.size)
  have HT := Hd (HT.out.below2 hb)
  have HZ := Hd (HZ.out.below hb)
  have VH := Hd (VH.out.below hb)
  have VT := Hd (VT.out.below hb)
  have VN := Hd (VN.out.below hb)
  have VR := Hd (VR.out.below hb)
  have HB := Hd (belowTo HB.out hb)
  have ha := (Below.refl wx25.heap.size wx25).alloc (Nat.le_refl _) (.cells #[.bool (decide (z < 0)), .slice A11 (natL z.natAbs).length c11, .bool (decide (z < 0)), .slice B11 (natL z.natAbs).length e11] 27)
  have hn := FV.new O_VQ.out.1 O_VQ.out.2
  have hz : (wx25.alloc (.cells #[.bool (decide (z < 0)), .slice A11 (natL z.natAbs).length c11, .bool (decide (z < 0)), .slice B11 (natL z.natAbs).length e11] 27)).heap.size = wx25.heap.size + 1 := by simp
  go_upto_region 15 with fail
  obtain ⟨wy26, E⟩ : ∃ W, W = wx25.alloc (.cells #[.bool (decide (z < 0)), .slice A11 (natL z.natAbs).length c11, .bool (decide (z < 0)), .slice B11 (natL z.natAbs).length e11] 27) := ⟨_, rfl⟩
  obtain ⟨q26, hq⟩ : ∃ q, q = wx25.heap.size := ⟨_, rfl⟩
  rw [← E] at ha
  rw [← E, ← hq] at hn hz ⊢
  have HZ_wy26 := Hd (And.intro hq hz)
  have VQ := Hd hn
  have HT := Hd (HT.out.below2 ha)
  have HZ := Hd (HZ.out.below ha)
  have VH := Hd (VH.out.below ha)
  have VT := Hd (VT.out.below ha)
  have VN := Hd (VN.out.below ha)
  have VR := Hd (VR.out.below ha)
  have HB := Hd (belowTo HB.out ha)
  clear ha hn hz hq E
  clear O_VQ
  clear VQ
  go_wp2_with fail
  refine (H15.out wy26).mono ?_
  rintro e wx27 ⟨v, rfl, hI, hb⟩
  obtain ⟨A12, c12, B12, e12, rfl, r1, r2, -⟩ := hI.form
  have O_VQ := Hd (And.intro r1.rawAt r2.rawAt)
  clear hI r1 r2
  have HS_wx27 := Hd (show wy26.heap.size ≤ wx27.heap.size from hb.size)
  have HT := Hd (HT.out.below2 hb)
  have HZ := Hd (HZ.out.below hb)
  have VH := Hd (VH.out.below hb)
  have VT := Hd (VT.out.below hb)
  have VN := Hd (VN.out.below hb)
  have VR := Hd (VR.out.below hb)
  have HB := Hd (belowTo HB.out hb)
  have ha := (Below.refl wx27.heap.size wx27).alloc (Nat.le_refl _) (.cells #[.bool (decide (z < 0)), .slice A12 (natL z.natAbs).length c12, .bool (decide (z < 0)), .slice B12 (natL z.natAbs).length e12] 27)
  have hn := FV.new O_VQ.out.1 O_VQ.out.2
  have hz : (wx27.alloc (.cells #[.bool (decide (z < 0)), .slice A12 (natL z.natAbs).length c12, .bool (decide (z < 0)), .slice B12 (natL z.natAbs).length e12] 27)).heap.size = wx27.heap.size + 1 := by simp
  go_upto_region 16 with fail
  obtain ⟨wy28, E⟩ : ∃ W, W = wx27.alloc (.cells #[.bool (decide (z < 0)), .slice A12 (natL z.natAbs).length c12, .bool (decide (z < 0)), .slice B12 (natL z.natAbs).length e12] 27) := ⟨_, rfl⟩
  obtain ⟨q28, hq⟩ : ∃ q, q = wx27.heap.size := ⟨_, rfl⟩
  rw [← E] at ha
  rw [← E, ← hq] at hn hz ⊢
  have HZ_wy28 := Hd (And.intro hq hz)
  have VQ := Hd hn
  have HT := Hd (HT.out.below2 ha)
  have HZ := Hd (HZ.out.below ha)
  have VH := Hd (VH.out.below ha)
  have VT := Hd (VT.out.below ha)
  have VN := Hd (VN.out.below ha)
  have VR := Hd (VR.out.below ha)
  have HB := Hd (belowTo HB.out ha)
  clear ha hn hz hq E
  clear O_VQ
  clear VQ
  go_wp2_with fail
  refine (H16.out wy28).mono ?_
  rintro e wx29 ⟨v, rfl, hI, hb⟩
  obtain ⟨A13, c13, B13, e13, rfl, r1, r2, -⟩ := hI.form
  have O_VQ := Hd (And.intro r1.rawAt r2.rawAt)
  clear hI r1 r2
  have HS_wx29 := Hd (show wy28.heap.size ≤ wx29.heap.size from hb.size)
  have HT := Hd (HT.out.below2 hb)
  have HZ := Hd (HZ.out.below hb)
  have VH := Hd (VH.out.below hb)
  have VT := Hd (VT.out.below hb)
  have VN := Hd (VN.out.below hb)
  have VR := Hd (VR.out.below hb)
  have HB := Hd (belowTo HB.out hb)
  have ha := (Below.refl wx29.heap.size wx29).alloc (Nat.le_refl _) (.cells #[.bool (decide (z < 0)), .slice A13 (natL z.natAbs).length c13, .bool (decide (z < 0)), .slice B13 (natL z.natAbs).length e13] 27)
  have hn := FV.new O_VQ.out.1 O_VQ.out.2
  have hz : (wx29.alloc (.cells #[.bool (decide (z < 0)), .slice A13 (natL z.natAbs).length c13, .bool (decide (z < 0)), .slice B13 (natL z.natAbs).length e13] 27)).heap.size = wx29.heap.size + 1 := by simp
  go_upto_region 17 with fail
  obtain ⟨wy30, E⟩ : ∃ W, W = wx29.alloc (.cells #[.bool (decide (z < 0)), .slice A13 (natL z.natAbs).length c13, .bool (decide (z < 0)), .slice B13 (natL z.natAbs).length e13] 27) := ⟨_, rfl⟩
  obtain ⟨q30, hq⟩ : ∃ q, q = wx29.heap.size := ⟨_, rfl⟩
  rw [← E] at ha
  rw [← E, ← hq] at hn hz ⊢
  have HZ_wy30 := Hd (And.intro hq hz)
  have VQ := Hd hn
  have HT := Hd (HT.out.below2 ha)
  have HZ := Hd (HZ.out.below ha)
  have VH := Hd (VH.out.below ha)
  have VT := Hd (VT.out.below ha)
  have VN := Hd (VN.out.below ha)
  have VR := Hd (VR.out.below ha)
  have HB := Hd (belowTo HB.out ha)
  clear ha hn hz hq E
  clear O_VQ
  clear VQ
  obtain ⟨l_x, x0, x1, x2, x3, -, -, -, -⟩ := VH.out.quad.facts
  go_wp2_with fail
  refine (H17.out wy30 A1 B1 c1 e1 VH.out.num VH.out.den).mono ?_
  rintro e wx31 ⟨v, rfl, hI, hb⟩
  clear l_x x0 x1 x2 x3
  obtain ⟨A14, c14, B14, e14, rfl, r1, r2, -⟩ := hI.form
  have O_VQ := Hd (And.intro r1.rawAt r2.rawAt)
  clear hI r1 r2
  have HS_wx31 := Hd (show wy30.heap.size ≤ wx31.heap.size from hb.size)
  have HT := Hd (HT.out.below2 hb)
  have HZ := Hd (HZ.out.below hb)
  have VH := Hd (VH.out.below hb)
  have VT := Hd (VT.out.below hb)
  have VN := Hd (VN.out.below hb)
  have VR := Hd (VR.out.below hb)
  have HB := Hd (belowTo HB.out hb)
  have ha := (Below.refl wx31.heap.size wx31).alloc (Nat.le_refl _) (.cells #[.bool (decide (z < 0)), .slice A14 (natL z.natAbs).length c14, .bool (decide (z < 0)), .slice B14 (natL z.natAbs).length e14] 27)
  have hn := FV.new O_VQ.out.1 O_VQ.out.2
  have hz : (wx31.alloc (.cells #[.bool (decide (z < 0)), .slice A14 (natL z.natAbs).length c14, .bool (decide (z < 0)), .slice B14 (natL z.natAbs).length e14] 27)).heap.size = wx31.heap.size + 1 := by simp
  go_upto_region 18 with fail
  obtain ⟨wy32, E⟩ : ∃ W, W = wx31.alloc (.cells #[.bool (decide (z < 0)), .slice A14 (natL z.natAbs).length c14, .bool (decide (z < 0)), .slice B14 (natL z.natAbs).length e14] 27) := ⟨_, rfl⟩
  obtain ⟨q32, hq⟩ : ∃ q, q = wx31.heap.size := ⟨_, rfl⟩
  rw [← E] at ha
  rw [← E, ← hq] at hn hz ⊢
  have HZ_wy32 := Hd (And.intro hq hz)
  have VQ := Hd hn
  have HT := Hd (HT.out.below2 ha)
  have HZ := Hd (HZ.out.below ha)
  have VH := Hd (VH.out.below ha)
  have VT := Hd (VT.out.below ha)
  have VN := Hd (VN.out.below ha)
  have VR := Hd (VR.out.below ha)
  have HB := Hd (belowTo HB.out ha)
  clear ha hn hz hq E
  clear O_VQ
  clear VQ
  go_wp2_with fail
  refine (H18.out wy32).mono ?_
  rintro e wx33 ⟨v, rfl, hI, hb⟩
  obtain ⟨A15, c15, B15, e15, rfl, r1, r2, -⟩ := hI.form
  have O_V0 := Hd (And.intro r1.rawAt r2.rawAt)
  clear hI r1 r2
  have HS_wx33 := Hd (show wy32.heap.size ≤ wx33.heap.size from hb.size)
  have HT := Hd (HT.out.below2 hb)
  have HZ := Hd (HZ.out.below hb)
  have VH := Hd (VH.out.below hb)
  have VT := Hd (VT.out.below hb)
  have VN := Hd (VN.out.below hb)
  have VR := Hd (VR.out.below hb)
  have HB := Hd (belowTo HB.out hb)
  have ha := (Below.refl wx33.heap.size wx33).alloc (Nat.le_refl _) (.cells #[.bool (decide (z < 0)), .slice A15 (natL z.natAbs).length c15, .bool (decide (one < 0)), .slice B15 (natL one.natAbs).length e15] 27)
  have hn := FV.new O_V0.out.1 O_V0.out.2
  have hz : (wx33.alloc (.cells #[.bool (decide (z < 0)), .slice A15 (natL z.natAbs).length c15, .bool (decide (one < 0)), .slice B15 (natL one.natAbs).length e15] 27)).heap.size = wx33.heap.size + 1 := by simp
  go_upto_region 19 with fail
  obtain ⟨wy34, E⟩ : ∃ W, W = wx33.alloc (.cells #[.bool (decide (z < 0)), .slice A15 (natL z.natAbs).length c15, .bool (decide (one < 0)), .slice B15 (natL one.natAbs).length e15] 27) := ⟨_, rfl⟩
  obtain ⟨q34, hq⟩ : ∃ q, q = wx33.heap.size := ⟨_, rfl⟩
  rw [← E] at ha
  rw [← E, ← hq] at hn hz ⊢
  have HZ_wy34 := Hd (And.intro hq hz)
  have V0 := Hd hn
  have HT := Hd (HT.out.below2 ha)
  have HZ := Hd (HZ.out.below ha)
  have VH := Hd (VH.out.below ha)
  have VT := Hd (VT.out.below ha)
  have VN := Hd (VN.out.below ha)
  have VR := Hd (VR.out.below ha)
  have HB := Hd (belowTo HB.out ha)
  clear ha hn hz hq E
  clear O_V0
  have hbit := fbits 4599676419421066581
  have HNO := Hd (fun (V : World) => (show FracAt V (.agg #[.bool false, .slice none 0 0, .bool false, .slice none 0 0]) z z from by rw [HZ0.out]; exact (FracOwn.nought V 0).at_))
  obtain ⟨l_x, x0, x1, x2, x3, -, -, -, -⟩ := VR.out.quad.facts
  go_wp2_with fail
  refine (sameFrac_true _ _ _ _ wy34 VR.out.at_ (HNO.out _)).mono ?_
  rintro e wx35 ⟨rfl, hb⟩
  clear l_x x0 x1 x2 x3
  have HS_wx35 := Hd (show wy34.heap.size ≤ wx35.heap.size from hb.size)
  have HT := Hd (HT.out.below2 hb)
  have HZ := Hd (HZ.out.below hb)
  have VH := Hd (VH.out.below hb)
  have VT := Hd (VT.out.below hb)
  have VN := Hd (VN.out.below hb)
  have VR := Hd (VR.out.below hb)
  have V0 := Hd (V0.out.below hb)
  have HB := Hd (belowTo HB.out hb)
  obtain ⟨l_x, x0, x1, x2, x3, -, -, -, -⟩ := V0.out.quad.facts
  obtain ⟨l_y, y0, y1, y2, y3, -, -, -, -⟩ := VN.out.quad.facts
  go_wp2_with fail
  refine (sameFrac_true _ _ _ _ wx35 V0.out.at_ VN.out.at_).mono ?_
  rintro e wx36 ⟨rfl, hb⟩
  clear l_x x0 x1 x2 x3 l_y y0 y1 y2 y3
  have HS_wx36 := Hd (show wx35.heap.size ≤ wx36.heap.size from hb.size)
  have HT := Hd (HT.out.below2 hb)
  have HZ := Hd (HZ.out.below hb)
  have VH := Hd (VH.out.below hb)
  have VT := Hd (VT.out.below hb)
  have VN := Hd (VN.out.below hb)
  have VR := Hd (VR.out.below hb)
  have V0 := Hd (V0.out.below hb)
  have HB := Hd (belowTo HB.out hb)
  obtain ⟨l_x, x0, x1, x2, x3, -, -, -, -⟩ := V0.out.quad.facts
  go_wp2_with fail
  refine (H24.out wx36 A15 B15 c15 e15 V0.out.num V0.out.den).mono ?_
  rintro e wx37 ⟨rfl, hb⟩
  clear l_x x0 x1 x2 x3
  have HS_wx37 := Hd (show wx36.heap.size ≤ wx37.heap.size from hb.size)
  have HT := Hd (HT.out.below2 hb)
  have HZ := Hd (HZ.out.below hb)
  have VH := Hd (VH.out.below hb)
  have VT := Hd (VT.out.below hb)
  have VN := Hd (VN.out.below hb)
  have VR := Hd (VR.out.below hb)
  have V0 := Hd (V0.out.below hb)
  have HB := Hd (belowTo HB.out hb)
  go_wp2_with fail
  refine (H22.out wx37).mono ?_
  rintro e wx38 ⟨rfl, hb⟩
  have HS_wx38 := Hd (show wx37.heap.size ≤ wx38.heap.size from hb.size)
  have HT := Hd (HT.out.below2 hb)
  have HZ := Hd (HZ.out.below hb)
  have VH := Hd (VH.out.below hb)
  have VT := Hd (VT.out.below hb)
  have VN := Hd (VN.out.below hb)
  have VR := Hd (VR.out.below hb)
  have V0 := Hd (V0.out.below hb)
  have HB := Hd (belowTo HB.out hb)
  go_wp2_with fail
  refine (lives_ours wx38 HT.out).mono ?_
  rintro e wx39 ⟨rfl, hb⟩
  have HS_wx39 := Hd (show wx38.heap.size ≤ wx39.heap.size from hb.size)
  have HT := Hd (HT.out.below2 hb)
  have HZ := Hd (HZ.out.below hb)
  have VH := Hd (VH.out.below hb)
  have VT := Hd (VT.out.below hb)
  have VN := Hd (VN.out.below hb)
  have VR := Hd (VR.out.below hb)
  have V0 := Hd (V0.out.below hb)
  have HB := Hd (belowTo HB.out hb)
  obtain ⟨l_x, x0, x1, x2, x3, -, -, -, -⟩ := VT.out.quad.facts
  obtain ⟨l_y, y0, y1, y2, y3, -, -, -, -⟩ := VH.out.quad.facts
  go_wp2_with fail
  refine (H25.out wx39 A2 B2 A1 B1 c2 e2 c1 e1 VT.out.num VT.out.den VH.out.num VH.out.den).mono ?_
  rintro e wx40 ⟨rfl, hb⟩
  clear l_x x0 x1 x2 x3 l_y y0 y1 y2 y3
  have HS_wx40 := Hd (show wx39.heap.size ≤ wx40.heap.size from hb.size)
  have HT := Hd (HT.out.below2 hb)
  have HZ := Hd (HZ.out.below hb)
  have VH := Hd (VH.out.below hb)
  have VT := Hd (VT.out.below hb)
  have VN := Hd (VN.out.below hb)
  have VR := Hd (VR.out.below hb)
  have V0 := Hd (V0.out.below hb)
  have HB := Hd (belowTo HB.out hb)
  go_wp2_with fail
  refine (H23.out wx40).mono ?_
  rintro e wx41 ⟨rfl, hb⟩
  have HS_wx41 := Hd (show wx40.heap.size ≤ wx41.heap.size from hb.size)
  have HT := Hd (HT.out.below2 hb)
  have HZ := Hd (HZ.out.below hb)
  have VH := Hd (VH.out.below hb)
  have VT := Hd (VT.out.below hb)
  have VN := Hd (VN.out.below hb)
  have VR := Hd (VR.out.below hb)
  have V0 := Hd (V0.out.below hb)
  have HB := Hd (belowTo HB.out hb)
  go_wp2_with fail
  go_ret
  exact ⟨rfl, HB.out⟩
end Go.Proofs.YtipmkkobdbgphaaGreatDoor
