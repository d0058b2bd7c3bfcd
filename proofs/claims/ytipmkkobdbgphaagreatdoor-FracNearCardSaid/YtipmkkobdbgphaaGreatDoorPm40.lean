/- Several texts in one: NearLaw, Nextafter, AwayLaw, Away. -/
import Derived.Test.YtipmkkobdbgphaaGreatDoorPm39
import Derived.Test.YtipmkkobdbgphaaGreatDoorPmHd
set_option maxRecDepth 100000
set_option maxHeartbeats 8000000
/- What FracNear rests on: of the floats beside the nearest one none is nearer; plain. -/
namespace Go.Proofs.YtipmkkobdbgphaaGreatDoor
open Go.RowKit

theorem near_rung {N d b r : Nat} (hd : 0 < d) (h : RungAt N d b) (hr : r = upR N d b) (G : Int)
    (hG : G = (fval (r + 1) : Int) ∨ (1 ≤ r ∧ G = (fval (r - 1) : Int)) ∨ (r = 0 ∧ G = -(fval 1 : Int))) :
    ((N : Int) - (fval r : Int) * (d : Int)).natAbs ≤ ((N : Int) - G * (d : Int)).natAbs ∧ (((N : Int) - (fval r : Int) * (d : Int)).natAbs = ((N : Int) - G * (d : Int)).natAbs → r % 2 = 0) := by
  have cast : ∀ x : Nat, (fval x : Int) * (d : Int) = ((fval x * d : Nat) : Int) := fun x => (Int.natCast_mul _ _).symm
  have h1 := h.1
  have h2 := h.2
  unfold upR at hr
  rw [Nat.add_mul] at hr
  have up : ∀ x, fval x * d < fval (x + 1) * d := fun x => Nat.mul_lt_mul_of_pos_right (fval_lt_succ x) hd
  have u0 := up b
  have u1 := up (b + 1)
  have u2 := up 0
  rw [fval_zero, Nat.zero_mul, Nat.zero_add] at u2
  rcases hG with rfl | ⟨hb, rfl⟩ | ⟨hb, rfl⟩
  · rw [cast, cast]
    split at hr
    · subst hr
      generalize fval b * d = a at *
      generalize fval (b + 1) * d = a1 at *
      generalize fval (b + 1 + 1) * d = a2 at *
      omega
    · subst hr
      generalize fval r * d = a at *
      generalize fval (r + 1) * d = a1 at *
      omega
  · rw [cast, cast]
    split at hr
    · subst hr
      rw [Nat.add_sub_cancel]
      generalize fval b * d = a at *
      generalize fval (b + 1) * d = a1 at *
      omega
    · subst hr
      have u3 := up (r - 1)
      rw [Nat.sub_add_cancel hb] at u3
      generalize fval r * d = a at *
      generalize fval (r - 1) * d = a1 at *
      omega
  · rw [Int.neg_mul, cast, cast]
    split at hr
    · omega
    · subst hr
      generalize fval 1 * d = a1 at *
      generalize fval r * d = a at *
      omega
def nextU (v : Nat) : Nat := if frun v = 0 then 1 else if fneg v then v - 1 else v + 1
def nextD (v : Nat) : Nat := if frun v = 0 then 9223372036854775809 else if fneg v then v + 1 else v - 1
theorem bits_pos {x : Nat} (h : x < 9223372036854775808) : frun x = x ∧ fneg x = false ∧ fint x = (fval x : Int) := by
  have e1 : frun x = x := by unfold frun; omega
  have e2 : fneg x = false := by
    have : x / 9223372036854775808 % 2 = 0 := by omega
    unfold fneg
    rw [this]
    rfl
  refine ⟨e1, e2, ?_⟩
  unfold fint
  rw [e1, e2]
  rfl
theorem bits_neg {x : Nat} (h : x < 9223372036854775808) : frun (x + 9223372036854775808) = x ∧ fneg (x + 9223372036854775808) = true ∧ fint (x + 9223372036854775808) = -(fval x : Int) := by
  have e1 : frun (x + 9223372036854775808) = x := by unfold frun; omega
  have e2 : fneg (x + 9223372036854775808) = true := by
    have : (x + 9223372036854775808) / 9223372036854775808 % 2 = 1 := by omega
    unfold fneg
    rw [this]
    rfl
  refine ⟨e1, e2, ?_⟩
  unfold fint
  rw [e1, e2]
  rfl
theorem near_pos (r : Nat) : nearB false (some r) = r := by unfold nearB; simp
theorem near_neg0 : nearB true (some 0) = 0 := by unfold nearB; simp
theorem near_neg {r : Nat} (h : r ≠ 0) : nearB true (some r) = r + 9223372036854775808 := by unfold nearB; simp [h]
theorem near_sign {n d : Int} {r v u : Nat} (hd : 0 < d) (ho : Near (n.natAbs * p2 1074) d.natAbs (some r)) (hv : v = nearB (decide (n < 0)) (some r)) (hu : u = nextU v ∨ u = nextD v) :
    (n * unitQ - fint v * d).natAbs ≤ (n * unitQ - fint u * d).natAbs ∧ ((n * unitQ - fint v * d).natAbs = (n * unitQ - fint u * d).natAbs → v % 2 = 0) := by
  have hl := near_lt ho
  obtain ⟨b, hb, he⟩ := ho
  have hr : r = upR (n.natAbs * p2 1074) d.natAbs b := by
    split at he
    · injection he
    · cases he
  have hD : ((d.natAbs : Nat) : Int) = d := by omega
  have key := fun G hG => near_rung (show 0 < d.natAbs by omega) hb hr G hG
  rw [hD] at key
  have hX : n * unitQ = if n < 0 then -((n.natAbs * p2 1074 : Nat) : Int) else ((n.natAbs * p2 1074 : Nat) : Int) := by
    rw [Int.natCast_mul]
    show n * ((p2 1074 : Nat) : Int) = _
    split
    · rw [← Int.neg_mul, show -((n.natAbs : Nat) : Int) = n by omega]
    · rw [show ((n.natAbs : Nat) : Int) = n by omega]
  clear hb hr he
  generalize n.natAbs * p2 1074 = N at key hX
  by_cases h0 : n < 0
  · rw [if_pos h0] at hX
    rw [decide_eq_true h0] at hv
    rw [hX]
    have hF : fint v = -(fval r : Int) ∧ (v % 2 = r % 2) := by
      by_cases r0 : r = 0
      · subst r0
        rw [near_neg0] at hv
        subst hv
        exact ⟨by rw [(bits_pos (x := 0) (by decide)).2.2, fval_zero]; rfl, rfl⟩
      · rw [near_neg r0] at hv
        subst hv
        exact ⟨(bits_neg (x := r) (by omega)).2.2, by omega⟩
    have hG : -(fint u) = (fval (r + 1) : Int) ∨ (1 ≤ r ∧ -(fint u) = (fval (r - 1) : Int)) ∨ (r = 0 ∧ -(fint u) = -(fval 1 : Int)) := by
      by_cases r0 : r = 0
      · subst r0
        rw [near_neg0] at hv
        subst hv
        rcases hu with rfl | rfl
        · refine .inr (.inr ⟨rfl, ?_⟩)
          rw [show nextU 0 = 1 from rfl, (bits_pos (x := 1) (by decide)).2.2]
        · refine .inl ?_
          rw [show nextD 0 = 1 + 9223372036854775808 from rfl, (bits_neg (x := 1) (by decide)).2.2, Int.neg_neg]
      · rw [near_neg r0] at hv
        have hb := bits_neg (x := r) (by omega)
        rw [← hv] at hb
        unfold nextU nextD at hu
        rw [hb.1, hb.2.1, if_neg r0, if_neg r0] at hu
        rcases hu with rfl | rfl
        · refine .inr (.inl ⟨by omega, ?_⟩)
          rw [if_pos rfl, show v - 1 = (r - 1) + 9223372036854775808 by omega, (bits_neg (x := r - 1) (by omega)).2.2, Int.neg_neg]
        · refine .inl ?_
          rw [if_pos rfl, show v + 1 = (r + 1) + 9223372036854775808 by omega, (bits_neg (x := r + 1) (by omega)).2.2, Int.neg_neg]
    have k := key _ hG
    rw [hF.1, hF.2]
    rw [Int.neg_mul] at k ⊢
    generalize (fval r : Int) * d = a at k ⊢
    generalize fint u * d = c at k ⊢
    rw [show (-(N : Int) - -a).natAbs = ((N : Int) - a).natAbs by omega, show (-(N : Int) - c).natAbs = ((N : Int) - -c).natAbs by omega]
    exact k
  · rw [if_neg h0] at hX
    rw [decide_eq_false h0, near_pos] at hv
    subst hv
    have hb := bits_pos (x := v) (by omega)
    rw [hX, hb.2.2]
    refine key _ ?_
    unfold nextU nextD at hu
    rw [hb.1, hb.2.1] at hu
    by_cases r0 : v = 0
    · subst r0
      rcases hu with rfl | rfl
      · refine .inl ?_
        rw [if_pos rfl, (bits_pos (x := 1) (by decide)).2.2]
      · refine .inr (.inr ⟨rfl, ?_⟩)
        rw [if_pos rfl, show 9223372036854775809 = 1 + 9223372036854775808 from rfl, (bits_neg (x := 1) (by decide)).2.2]
    · rw [if_neg r0, if_neg r0] at hu
      rcases hu with rfl | rfl
      · exact .inl (by rw [if_neg (by decide), (bits_pos (x := v + 1) (by omega)).2.2])
      · exact .inr (.inl ⟨by omega, by rw [if_neg (by decide), (bits_pos (x := v - 1) (by omega)).2.2]⟩)
/- math.Nextafter of a finite float towards the infinities. -/

theorem order_pinf {v : Nat} (h : frun v < 9218868437227405312) : Ieee.double.order v 9218868437227405312 = some .lt ∧ Ieee.double.order 9218868437227405312 v = some .gt := by
  unfold Ieee.Format.order
  rw [read_inf (b := 9218868437227405312) (by decide), read_fin h]
  exact ⟨rfl, rfl⟩
theorem order_minf {v : Nat} (h : frun v < 9218868437227405312) : Ieee.double.order v 18442240474082181120 = some .gt ∧ Ieee.double.order 18442240474082181120 v = some .lt := by
  unfold Ieee.Format.order
  rw [read_inf (b := 18442240474082181120) (by decide), read_fin h]
  exact ⟨rfl, rfl⟩
theorem fint_nought {v : Nat} : fint v = 0 ↔ frun v = 0 := by
  have h : 0 < frun v → 0 < fval (frun v) := fval_pos
  have h0 := fval_zero
  unfold fint
  constructor
  · intro e
    refine Decidable.byContradiction fun hn => ?_
    have := h (by omega)
    split at e <;> omega
  · intro e
    rw [e, h0]
    split <;> rfl
theorem fint_pos {v : Nat} (h : frun v ≠ 0) : decide (0 < fint v) = !fneg v := by
  have := fval_pos (show 0 < frun v by omega)
  unfold fint
  cases fneg v with
  | false => simp only [Bool.false_eq_true, if_false]; exact decide_eq_true (by omega)
  | true => simp only [if_true]; exact decide_eq_false (by omega)
theorem math_Copysign (s : Bool) (w : World) : Calls Tryz.prog 104 #[.float .f64 1, .float .f64 (if s then 18442240474082181120 else 9218868437227405312)] w fun e w' => e = .returned (.float .f64 (if s then 9223372036854775809 else 1)) ∧ Below w.heap.size w w' := by
  have h1 : ∀ (b : Nat) (w : World), (callFunc 25 #[.float .f64 b]).run Tryz.prog w = .ok (.value (.int .u64 b)) w := fbits
  cases s
  case false =>
    have h2 : ∀ w : World, (callFunc 105 #[.int .u64 1]).run Tryz.prog w = .ok (.value (.float .f64 1)) w := fun w => ffrom 1 w
    have g1 : bits BinOp.andNot IntKind.u64 1 9223372036854775808 = 1 := by decide +kernel
    have g2 : bits BinOp.and IntKind.u64 9218868437227405312 9223372036854775808 = 0 := by decide +kernel
    have g3 : bits BinOp.or IntKind.u64 1 0 = 1 := by decide +kernel
    go_enter Tryz.func104, Tryz.ntmps104
    go_wp2_with fail
    go_ret
    exact ⟨rfl, Below.refl _ _⟩
  case true =>
    have h2 : ∀ w : World, (callFunc 105 #[.int .u64 9223372036854775809]).run Tryz.prog w = .ok (.value (.float .f64 9223372036854775809)) w := fun w => ffrom 9223372036854775809 w
    have g1 : bits BinOp.andNot IntKind.u64 1 9223372036854775808 = 1 := by decide +kernel
    have g2 : bits BinOp.and IntKind.u64 18442240474082181120 9223372036854775808 = 9223372036854775808 := by decide +kernel
    have g3 : bits BinOp.or IntKind.u64 1 9223372036854775808 = 9223372036854775809 := by decide +kernel
    go_enter Tryz.func104, Tryz.ntmps104
    go_wp2_with fail
    go_ret
    exact ⟨rfl, Below.refl _ _⟩
theorem next_up (v : Nat) (hv : v < 18446744073709551616) (hf : frun v < 9218868437227405312) (w : World) : Calls Tryz.prog 23 #[.float .f64 v, .float .f64 9218868437227405312] w fun e w' => e = .returned (.float .f64 (nextU v)) ∧ Below w.heap.size w w' := by
  have D1 := fun (V : World) => is_nan v false (decide_eq_false (by omega)).symm V
  have D2 := fun (V : World) => is_nan 9218868437227405312 false (by decide +kernel) V
  have D3 := fun (V : World) => math_Copysign false V
  simp only [Bool.false_eq_true, if_false] at D3
  have hb : ∀ w : World, (callFunc 25 #[.float .f64 v]).run Tryz.prog w = .ok (.value (.int .u64 v)) w := fbits v
  have h1 : ∀ w : World, (callFunc 105 #[.int .u64 1]).run Tryz.prog w = .ok (.value (.float .f64 1)) w := fun w => ffrom 1 w
  have g1 : (FloatKind.f64.format.order v 9218868437227405312 == some .eq) = false := by
    show (Ieee.double.order v 9218868437227405312 == some .eq) = false
    rw [(order_pinf hf).1]; rfl
  have g3 : (FloatKind.f64.format.order 9218868437227405312 v == some .gt) = true := by
    show (Ieee.double.order 9218868437227405312 v == some .gt) = true
    rw [(order_pinf hf).2]; rfl
  have f0 : fint 0 = 0 := fint_nought.2 rfl
  have g2 : (FloatKind.f64.format.order v 0 == some .eq) = decide (frun v = 0) := by
    show (Ieee.double.order v 0 == some .eq) = _
    rw [order_eq hf (by decide), f0]
    exact decide_eq_decide.2 fint_nought
  have g4 : (FloatKind.f64.format.order v 0 == some .gt) = decide (0 < fint v) := by
    show (Ieee.double.order v 0 == some .gt) = _
    rw [order_gt hf (by decide), f0]
  have H1 := Hd D1
  have H2 := Hd D2
  have H3 := Hd D3
  unfold nextU
  by_cases r0 : frun v = 0
  · rw [decide_eq_true r0] at g2
    rw [if_pos r0]
    clear D1 D2 D3 f0 g4 hb hf hv r0 g3
    go_enter Tryz.func23, Tryz.ntmps23
    go_wp2_with fail
    refine (H1.out _).mono ?_
    rintro e w1 ⟨rfl, hb1⟩
    go_wp2_with fail
    refine (H2.out _).mono ?_
    rintro e w2 ⟨rfl, hb2⟩
    go_wp2_with fail
    refine (H3.out _).mono ?_
    rintro e w3 ⟨rfl, hb3⟩
    have HB := Hd (belowTo (belowTo hb1 hb2) hb3)
    clear hb1 hb2 hb3
    go_wp2_with fail
    go_ret
    exact ⟨rfl, HB.out⟩
  · rw [decide_eq_false r0] at g2
    rw [fint_pos r0] at g4
    rw [if_neg r0]
    by_cases hn : fneg v = true
    · skip
      rw [hn] at g4 ⊢
      simp only [Bool.not_true, if_true] at g4 ⊢
      have hk : 1 ≤ v ∧ v + 1 < 18446744073709551616 := by
        have e : v / 9223372036854775808 = 1 := by
          unfold fneg at hn
          have h2 : v / 9223372036854775808 < 2 := by omega
          rcases (by omega : v / 9223372036854775808 = 0 ∨ v / 9223372036854775808 = 1) with e | e
          · rw [e] at hn; cases hn
          · rw [e] at hn; exact e
        unfold frun at hf r0
        omega
      obtain ⟨k, ek⟩ : ∃ k : Nat, k = v - 1 := ⟨_, rfl⟩
      have h5 : ∀ w : World, (callFunc 105 #[.int .u64 (k : Int)]).run Tryz.prog w = .ok (.value (.float .f64 k)) w := ffrom k
      have e5 : (v : Int) - 1 = (k : Int) := by omega
      have e6 : IntKind.u64.wrap (k : Int) = (k : Int) := u64_fits _ (by omega) (by omega)
      rw [← ek]
      clear D1 D2 D3 f0 hf hv r0 hk ek hn
      go_enter Tryz.func23, Tryz.ntmps23
      go_wp2_with fail
      refine (H1.out _).mono ?_
      rintro e w1 ⟨rfl, hb1⟩
      go_wp2_with fail
      refine (H2.out _).mono ?_
      rintro e w2 ⟨rfl, hb2⟩
      have HB := Hd (belowTo hb1 hb2)
      clear hb1 hb2
      go_wp2_with fail
      go_ret
      exact ⟨rfl, HB.out⟩
    · have hn : fneg v = false := by simpa using hn
      rw [hn] at g4 ⊢
      simp only [Bool.not_false, Bool.false_eq_true, if_false] at g4 ⊢
      have hk : 1 ≤ v ∧ v + 1 < 18446744073709551616 := by
        have e : v / 9223372036854775808 = 0 := by
          unfold fneg at hn
          have h2 : v / 9223372036854775808 < 2 := by omega
          rcases (by omega : v / 9223372036854775808 = 0 ∨ v / 9223372036854775808 = 1) with e | e
          · rw [e] at hn; exact e
          · rw [e] at hn; cases hn
        unfold frun at hf r0
        omega
      obtain ⟨k, ek⟩ : ∃ k : Nat, k = v + 1 := ⟨_, rfl⟩
      have h5 : ∀ w : World, (callFunc 105 #[.int .u64 (k : Int)]).run Tryz.prog w = .ok (.value (.float .f64 k)) w := ffrom k
      have e5 : (v : Int) + 1 = (k : Int) := by omega
      have e6 : IntKind.u64.wrap (k : Int) = (k : Int) := u64_fits _ (by omega) (by omega)
      rw [← ek]
      clear D1 D2 D3 f0 hf hv r0 hk ek hn
      go_enter Tryz.func23, Tryz.ntmps23
      go_wp2_with fail
      refine (H1.out _).mono ?_
      rintro e w1 ⟨rfl, hb1⟩
      go_wp2_with fail
      refine (H2.out _).mono ?_
      rintro e w2 ⟨rfl, hb2⟩
      have HB := Hd (belowTo hb1 hb2)
      clear hb1 hb2
      go_wp2_with fail
      go_ret
      exact ⟨rfl, HB.out⟩
theorem next_down (v : Nat) (hv : v < 18446744073709551616) (hf : frun v < 9218868437227405312) (w : World) : Calls Tryz.prog 23 #[.float .f64 v, .float .f64 18442240474082181120] w fun e w' => e = .returned (.float .f64 (nextD v)) ∧ Below w.heap.size w w' := by
  have D1 := fun (V : World) => is_nan v false (decide_eq_false (by omega)).symm V
  have D2 := fun (V : World) => is_nan 18442240474082181120 false (by decide +kernel) V
  have D3 := fun (V : World) => math_Copysign true V
  simp only [if_true] at D3
  have hb : ∀ w : World, (callFunc 25 #[.float .f64 v]).run Tryz.prog w = .ok (.value (.int .u64 v)) w := fbits v
  have h1 : ∀ w : World, (callFunc 105 #[.int .u64 1]).run Tryz.prog w = .ok (.value (.float .f64 1)) w := fun w => ffrom 1 w
  have g1 : (FloatKind.f64.format.order v 18442240474082181120 == some .eq) = false := by
    show (Ieee.double.order v 18442240474082181120 == some .eq) = false
    rw [(order_minf hf).1]; rfl
  have g3 : (FloatKind.f64.format.order 18442240474082181120 v == some .gt) = false := by
    show (Ieee.double.order 18442240474082181120 v == some .gt) = false
    rw [(order_minf hf).2]; rfl
  have f0 : fint 0 = 0 := fint_nought.2 rfl
  have g2 : (FloatKind.f64.format.order v 0 == some .eq) = decide (frun v = 0) := by
    show (Ieee.double.order v 0 == some .eq) = _
    rw [order_eq hf (by decide), f0]
    exact decide_eq_decide.2 fint_nought
  have g4 : (FloatKind.f64.format.order v 0 == some .gt) = decide (0 < fint v) := by
    show (Ieee.double.order v 0 == some .gt) = _
    rw [order_gt hf (by decide), f0]
  have H1 := Hd D1
  have H2 := Hd D2
  have H3 := Hd D3
  unfold nextD
  by_cases r0 : frun v = 0
  · rw [decide_eq_true r0] at g2
    rw [if_pos r0]
    clear D1 D2 D3 f0 g4 hb hf hv r0 g3
    go_enter Tryz.func23, Tryz.ntmps23
    go_wp2_with fail
    refine (H1.out _).mono ?_
    rintro e w1 ⟨rfl, hb1⟩
    go_wp2_with fail
    refine (H2.out _).mono ?_
    rintro e w2 ⟨rfl, hb2⟩
    go_wp2_with fail
    refine (H3.out _).mono ?_
    rintro e w3 ⟨rfl, hb3⟩
    have HB := Hd (belowTo (belowTo hb1 hb2) hb3)
    clear hb1 hb2 hb3
    go_wp2_with fail
    go_ret
    exact ⟨rfl, HB.out⟩
  · rw [decide_eq_false r0] at g2
    rw [fint_pos r0] at g4
    rw [if_neg r0]
    by_cases hn : fneg v = true
    · skip
      rw [hn] at g4 ⊢
      simp only [Bool.not_true, if_true] at g4 ⊢
      have hk : 1 ≤ v ∧ v + 1 < 18446744073709551616 := by
        have e : v / 9223372036854775808 = 1 := by
          unfold fneg at hn
          have h2 : v / 9223372036854775808 < 2 := by omega
          rcases (by omega : v / 9223372036854775808 = 0 ∨ v / 9223372036854775808 = 1) with e | e
          · rw [e] at hn; cases hn
          · rw [e] at hn; exact e
        unfold frun at hf r0
        omega
      obtain ⟨k, ek⟩ : ∃ k : Nat, k = v + 1 := ⟨_, rfl⟩
      have h5 : ∀ w : World, (callFunc 105 #[.int .u64 (k : Int)]).run Tryz.prog w = .ok (.value (.float .f64 k)) w := ffrom k
      have e5 : (v : Int) + 1 = (k : Int) := by omega
      have e6 : IntKind.u64.wrap (k : Int) = (k : Int) := u64_fits _ (by omega) (by omega)
      rw [← ek]
      clear D1 D2 D3 f0 hf hv r0 hk ek hn
      go_enter Tryz.func23, Tryz.ntmps23
      go_wp2_with fail
      refine (H1.out _).mono ?_
      rintro e w1 ⟨rfl, hb1⟩
      go_wp2_with fail
      refine (H2.out _).mono ?_
      rintro e w2 ⟨rfl, hb2⟩
      have HB := Hd (belowTo hb1 hb2)
      clear hb1 hb2
      go_wp2_with fail
      go_ret
      exact ⟨rfl, HB.out⟩
    · have hn : fneg v = false := by simpa using hn
      rw [hn] at g4 ⊢
      simp only [Bool.not_false, Bool.false_eq_true, if_false] at g4 ⊢
      have hk : 1 ≤ v ∧ v + 1 < 18446744073709551616 := by
        have e : v / 9223372036854775808 = 0 := by
          unfold fneg at hn
          have h2 : v / 9223372036854775808 < 2 := by omega
          rcases (by omega : v / 9223372036854775808 = 0 ∨ v / 9223372036854775808 = 1) with e | e
          · rw [e] at hn; exact e
          · rw [e] at hn; cases hn
        unfold frun at hf r0
        omega
      obtain ⟨k, ek⟩ : ∃ k : Nat, k = v - 1 := ⟨_, rfl⟩
      have h5 : ∀ w : World, (callFunc 105 #[.int .u64 (k : Int)]).run Tryz.prog w = .ok (.value (.float .f64 k)) w := ffrom k
      have e5 : (v : Int) - 1 = (k : Int) := by omega
      have e6 : IntKind.u64.wrap (k : Int) = (k : Int) := u64_fits _ (by omega) (by omega)
      rw [← ek]
      clear D1 D2 D3 f0 hf hv r0 hk ek hn
      go_enter Tryz.func23, Tryz.ntmps23
      go_wp2_with fail
      refine (H1.out _).mono ?_
      rintro e w1 ⟨rfl, hb1⟩
      go_wp2_with fail
      refine (H2.out _).mono ?_
      rintro e w2 ⟨rfl, hb2⟩
      have HB := Hd (belowTo hb1 hb2)
      clear hb1 hb2
      go_wp2_with fail
      go_ret
      exact ⟨rfl, HB.out⟩
/- How far a float is from a fraction; plain. -/

theorem away_cross {n d : Int} (v : Nat) (hd : 0 < d) : subN n d (fltN v) (fltD v) * (d * unitQ) = (n * unitQ - fint v * d) * subD n d (fltN v) (fltD v) ∧ 0 < subD n d (fltN v) (fltD v) := by
  have hf : 0 < fltD v := lowD_pos _ unitQ_pos
  have hc : fltN v * unitQ = fint v * fltD v := low_cross _ unitQ_pos
  have hs : subN n d (fltN v) (fltD v) * (d * fltD v) = (n * fltD v - fltN v * d) * subD n d (fltN v) (fltD v) := low_cross _ (Int.mul_pos hd hf)
  refine ⟨?_, lowD_pos _ (Int.mul_pos hd hf)⟩
  generalize subN n d (fltN v) (fltD v) = N at hs ⊢
  generalize subD n d (fltN v) (fltD v) = D at hs ⊢
  generalize unitQ = Q at hc ⊢
  generalize fltN v = a at hc hs
  generalize fltD v = b at hc hs hf
  generalize fint v = F at hc ⊢
  refine Int.eq_of_mul_eq_mul_right (a := b) (by omega) ?_
  calc N * (d * Q) * b = N * (d * b) * Q := by ac_rfl
    _ = (n * b - a * d) * D * Q := by rw [hs]
    _ = (n * b * Q - a * Q * d) * D := by rw [Int.mul_assoc, Int.mul_comm D Q, ← Int.mul_assoc, Int.sub_mul]; congr 2; ac_rfl
    _ = (n * b * Q - F * b * d) * D := by rw [hc]
    _ = (n * Q - F * d) * b * D := by rw [show n * b * Q - F * b * d = (n * Q - F * d) * b by rw [Int.sub_mul]; congr 1 <;> ac_rfl]
    _ = (n * Q - F * d) * D * b := by ac_rfl
theorem sub_rev {n m d f : Int} (hd : 0 < d) (hf : 0 < f) : subN m f n d = -subN n d m f ∧ subD m f n d = subD n d m f := by
  have h1 : gcdZ (subN n d m f) (subD n d m f) = 1 := low_one _ (Int.mul_pos hd hf)
  have hs : subN n d m f * (d * f) = (n * f - m * d) * subD n d m f := low_cross _ (Int.mul_pos hd hf)
  refine low_is (Int.mul_pos hf hd) (lowD_pos _ (Int.mul_pos hd hf)) ?_ ?_
  · unfold gcdZ at h1 ⊢
    rw [Int.natAbs_neg]
    exact h1
  · rw [show m * d - n * f = -(n * f - m * d) by omega, Int.neg_mul, Int.neg_mul, ← hs, Int.mul_comm f d]
theorem away_abs {n d N D : Int} {v : Nat} (h : subN n d (fltN v) (fltD v) * (d * unitQ) = (n * unitQ - fint v * d) * D) (hd : 0 < d) (hD : 0 < D) (hN : N = (((subN n d (fltN v) (fltD v)).natAbs : Nat) : Int)) :
    N * (d * unitQ) = (((n * unitQ - fint v * d).natAbs : Nat) : Int) * D := by
  have hT : 0 < d * unitQ := Int.mul_pos hd unitQ_pos
  generalize d * unitQ = T at h hT ⊢
  have e := congrArg Int.natAbs h
  rw [Int.natAbs_mul, Int.natAbs_mul] at e
  have e2 := congrArg (fun k : Nat => (k : Int)) e
  simp only [Int.natCast_mul] at e2
  rw [hN, show T = ((T.natAbs : Nat) : Int) by omega, e2, show ((D.natAbs : Nat) : Int) = D by omega]
theorem away_cmp {a1 a2 N1 D1 N2 D2 T : Int} (hT : 0 < T) (h1 : N1 * T = a1 * D1) (h2 : N2 * T = a2 * D2) (p1 : 0 < D1) (p2 : 0 < D2) : cmpz (N1 * D2) (N2 * D1) = cmpz a1 a2 :=
  cmpz_scale (p := T) (q := D1 * D2) hT (Int.mul_pos p1 p2) (by rw [show N1 * D2 * T = N1 * T * D2 by ac_rfl, h1]; ac_rfl) (by rw [show N2 * D1 * T = N2 * T * D1 by ac_rfl, h2]; ac_rfl)
/- How far a float is from a fraction: polestarlaw02.away. (Written by wip/frac/genaway.py.) -/

def RetAway (w : World) (n d : Int) (ok : Bool) (e : Ending) (w' : World) : Prop := ∃ v, e = .returned (.tuple #[v, .bool ok]) ∧ FracIn w' 0 v n d ∧ Below w.heap.size w w'
theorem Quad.far {w : World} {g h : Nat} {a b c d : Value} (q : Quad w g a b c d) (hne : g ≠ h) (x y z u : Value) : Quad ((((w.setCell ⟨h, 0, none⟩ x).setCell ⟨h, 1, none⟩ y).setCell ⟨h, 2, none⟩ z).setCell ⟨h, 3, none⟩ u) g a b c d := by
  refine ⟨?_⟩
  have hb := q.blk
  unfold Blk at hb ⊢
  rw [Below.heap_setCell _ ⟨h, 3, none⟩ u g hne, Below.heap_setCell _ ⟨h, 2, none⟩ z g hne, Below.heap_setCell _ ⟨h, 1, none⟩ y g hne, Below.heap_setCell _ ⟨h, 0, none⟩ x g hne]
  exact hb

theorem away_w1 (v : Nat) (n d r u : Int) (A B : Option Addr) (c e0 : Nat) (w : World) (h_x : Raw w A c (natL n.natAbs)) (k_x : Raw w B e0 (natL d.natAbs)) (D3 : ∀ V : World, tzTab V → Calls Tryz.prog 11 #[.float .f64 v] V (RetFracOwn2 V.heap.size V r u 6)) (htz : tzTab w) :
    Calls Tryz.prog 22 #[.agg #[.bool (decide (n < 0)), .slice A (natL n.natAbs).length c, .bool (decide (d < 0)), .slice B (natL d.natAbs).length e0], .float .f64 v] w (RetAway w 0 0 false) := by
  have H3 := Hd D3
  clear D3
  have HTZ := Hd htz
  clear htz
  have b0 := (((Below.refl w.heap.size w).alloc (Nat.le_refl _) (.cells #[.bool (decide (n < 0)), .slice A (natL n.natAbs).length c, .bool (decide (d < 0)), .slice B (natL d.natAbs).length e0] 27)).alloc (by simp) (.cells #[.bool false, .slice none 0 0, .bool false, .slice none 0 0] 27))
  have p0 := (Quad.new w (.bool (decide (n < 0))) (.slice A (natL n.natAbs).length c) (.bool (decide (d < 0))) (.slice B (natL d.natAbs).length e0)).alloc (.cells #[.bool false, .slice none 0 0, .bool false, .slice none 0 0] 27)
  have p1 := Quad.new (w.alloc (.cells #[.bool (decide (n < 0)), .slice A (natL n.natAbs).length c, .bool (decide (d < 0)), .slice B (natL d.natAbs).length e0] 27)) (.bool false) (.slice none 0 0) (.bool false) (.slice none 0 0)
  simp only [World.size_alloc] at p1
  have V_x := Hd (FV.mk p0 (h_x.below b0) (k_x.below b0))
  have KW_x := Hd k_x
  have P_r0 := Hd p1
  have RW_x := Hd h_x
  have HBW := Hd b0
  clear b0 p0 p1 h_x k_x
  go_enter Tryz.func22, Tryz.ntmps22
  obtain ⟨W, E⟩ : ∃ W, W = ((w.alloc (.cells #[.bool (decide (n < 0)), .slice A (natL n.natAbs).length c, .bool (decide (d < 0)), .slice B (natL d.natAbs).length e0] 27)).alloc (.cells #[.bool false, .slice none 0 0, .bool false, .slice none 0 0] 27)) := ⟨_, rfl⟩
  go_upto_region 1 with fail
  rw [← E] at V_x P_r0 HBW ⊢
  clear E
  have F := Hd ((((Kp.base HBW.out).add P_r0.out (fun _ _ => Quad.below)).add (HTZ.out.below HBW.out) (fun _ _ => tzTab.below)).add V_x.out (fun _ _ => FV.below))
  clear V_x P_r0 HBW HTZ KW_x RW_x
  obtain ⟨-, HZ, -⟩ := F.out.h
  go_wp2_with fail
  refine (H3.out W HZ).mono ?_
  rintro e wx1 ⟨v, rfl, hI, hb⟩
  obtain ⟨Ar1, cr1, Br1, er1, rfl, i1, i2, -⟩ := hI.form
  have hn := FV.new i1.rawAt i2.rawAt
  have ha := (Below.refl wx1.heap.size wx1).alloc (Nat.le_refl _) (.cells #[.bool (decide (r < 0)), .slice Ar1 (natL r.natAbs).length cr1, .bool (decide (u < 0)), .slice Br1 (natL u.natAbs).length er1] 27)
  have F := Hd (((F.out.below hb).below ha).add hn (fun _ _ => FV.below))
  clear HZ
  clear hI i1 i2 hb hn ha
  go_upto_region 3 with fail
  obtain ⟨wy1, E⟩ : ∃ W, W = wx1.alloc (.cells #[.bool (decide (r < 0)), .slice Ar1 (natL r.natAbs).length cr1, .bool (decide (u < 0)), .slice Br1 (natL u.natAbs).length er1] 27) := ⟨_, rfl⟩
  obtain ⟨q1, hq⟩ : ∃ q, q = wx1.heap.size := ⟨_, rfl⟩
  rw [← E, ← hq] at F ⊢
  clear E hq
  obtain ⟨-, -, -, PR, HB⟩ := F.out.h
  obtain ⟨l_r, a_r, b_r, c_r, d_r, e_r, f_r, g_r, h_r⟩ := PR.facts
  have HQ := Hd (PR.store (.bool false) (.slice none 0 0) (.bool false) (.slice none 0 0))
  have HB9 := Hd (below4 HB (show w.heap.size ≤ w.heap.size + 1 by omega) (.bool false) (.slice none 0 0) (.bool false) (.slice none 0 0))
  clear HB PR
  go_wp2_with fail
  obtain ⟨_, k0, k1, k2, k3, _, _, _, _⟩ := HQ.out.facts
  exact bodyPost_ret (by simp [results, Tryz.results22, go_sem, k0, k1, k2, k3]) rfl ⟨_, rfl, FracIn.nought _ 0, HB9.out⟩

theorem away_w2 (v : Nat) (n d r u z : Int) (A B : Option Addr) (c e0 : Nat) (w : World) (h_x : Raw w A c (natL n.natAbs)) (k_x : Raw w B e0 (natL d.natAbs)) (D3 : ∀ V : World, tzTab V → Calls Tryz.prog 11 #[.float .f64 v] V (RetFracOwn2 V.heap.size V r u 0)) (D4 : OpC 37 n d r u z z 4) (htz : tzTab w) :
    Calls Tryz.prog 22 #[.agg #[.bool (decide (n < 0)), .slice A (natL n.natAbs).length c, .bool (decide (d < 0)), .slice B (natL d.natAbs).length e0], .float .f64 v] w (RetAway w z z false) := by
  have H3 := Hd D3
  have H4 := Hd D4
  clear D3 D4
  have HTZ := Hd htz
  clear htz
  have b0 := (((Below.refl w.heap.size w).alloc (Nat.le_refl _) (.cells #[.bool (decide (n < 0)), .slice A (natL n.natAbs).length c, .bool (decide (d < 0)), .slice B (natL d.natAbs).length e0] 27)).alloc (by simp) (.cells #[.bool false, .slice none 0 0, .bool false, .slice none 0 0] 27))
  have p0 := (Quad.new w (.bool (decide (n < 0))) (.slice A (natL n.natAbs).length c) (.bool (decide (d < 0))) (.slice B (natL d.natAbs).length e0)).alloc (.cells #[.bool false, .slice none 0 0, .bool false, .slice none 0 0] 27)
  have p1 := Quad.new (w.alloc (.cells #[.bool (decide (n < 0)), .slice A (natL n.natAbs).length c, .bool (decide (d < 0)), .slice B (natL d.natAbs).length e0] 27)) (.bool false) (.slice none 0 0) (.bool false) (.slice none 0 0)
  simp only [World.size_alloc] at p1
  have V_x := Hd (FV.mk p0 (h_x.below b0) (k_x.below b0))
  have KW_x := Hd k_x
  have P_r0 := Hd p1
  have RW_x := Hd h_x
  have HBW := Hd b0
  clear b0 p0 p1 h_x k_x
  go_enter Tryz.func22, Tryz.ntmps22
  obtain ⟨W, E⟩ : ∃ W, W = ((w.alloc (.cells #[.bool (decide (n < 0)), .slice A (natL n.natAbs).length c, .bool (decide (d < 0)), .slice B (natL d.natAbs).length e0] 27)).alloc (.cells #[.bool false, .slice none 0 0, .bool false, .slice none 0 0] 27)) := ⟨_, rfl⟩
  go_upto_region 1 with fail
  rw [← E] at V_x P_r0 HBW ⊢
  clear E
  have F := Hd ((((Kp.base HBW.out).add P_r0.out (fun _ _ => Quad.below)).add (HTZ.out.below HBW.out) (fun _ _ => tzTab.below)).add V_x.out (fun _ _ => FV.below))
  clear V_x P_r0 HBW HTZ KW_x RW_x
  obtain ⟨-, HZ, -⟩ := F.out.h
  go_wp2_with fail
  refine (H3.out W HZ).mono ?_
  rintro e wx1 ⟨v, rfl, hI, hb⟩
  obtain ⟨Ar1, cr1, Br1, er1, rfl, i1, i2, -⟩ := hI.form
  have hn := FV.new i1.rawAt i2.rawAt
  have ha := (Below.refl wx1.heap.size wx1).alloc (Nat.le_refl _) (.cells #[.bool (decide (r < 0)), .slice Ar1 (natL r.natAbs).length cr1, .bool (decide (u < 0)), .slice Br1 (natL u.natAbs).length er1] 27)
  have F := Hd (((F.out.below hb).below ha).add hn (fun _ _ => FV.below))
  clear HZ
  clear hI i1 i2 hb hn ha
  go_upto_region 2 with fail
  obtain ⟨wy1, E⟩ : ∃ W, W = wx1.alloc (.cells #[.bool (decide (r < 0)), .slice Ar1 (natL r.natAbs).length cr1, .bool (decide (u < 0)), .slice Br1 (natL u.natAbs).length er1] 27) := ⟨_, rfl⟩
  obtain ⟨q1, hq⟩ : ∃ q, q = wx1.heap.size := ⟨_, rfl⟩
  rw [← E, ← hq] at F ⊢
  clear E hq
  obtain ⟨V_w, V_x, -⟩ := F.out.h
  obtain ⟨l_x, a_x, b_x, c_x, d_x, -, -, -, -⟩ := V_x.quad.facts
  obtain ⟨l_w, a_w, b_w, c_w, d_w, -, -, -, -⟩ := V_w.quad.facts
  go_wp2_with fail
  refine (H4.out wy1 _ _ _ _ _ _ _ _ V_x.num V_x.den V_w.num V_w.den).mono ?_
  rintro e wx2 ⟨v, rfl, hI, hb⟩
  obtain ⟨Ar2, cr2, Br2, er2, rfl, i1, i2, -⟩ := hI.form
  have hn := FV.new i1.rawAt i2.rawAt
  have ha := (Below.refl wx2.heap.size wx2).alloc (Nat.le_refl _) (.cells #[.bool (decide (z < 0)), .slice Ar2 (natL z.natAbs).length cr2, .bool (decide (z < 0)), .slice Br2 (natL z.natAbs).length er2] 27)
  have F := Hd (((F.out.below hb).below ha).add hn (fun _ _ => FV.below))
  have F := Hd (F.out.add (show FracIn _ 0 (.agg #[.bool (decide (z < 0)), .slice Ar2 (natL z.natAbs).length cr2, .bool (decide (z < 0)), .slice Br2 (natL z.natAbs).length er2]) z z from ⟨_, _, _, _, rfl, (i1.base (Nat.zero_le _)).alloc _, (i2.base (Nat.zero_le _)).alloc _⟩) (fun _ _ => FracIn.below))
  clear l_x a_x b_x c_x d_x l_w a_w b_w c_w d_w V_w V_x
  clear hI i1 i2 hb hn ha
  go_upto_region 5 with fail
  obtain ⟨wy2, E⟩ : ∃ W, W = wx2.alloc (.cells #[.bool (decide (z < 0)), .slice Ar2 (natL z.natAbs).length cr2, .bool (decide (z < 0)), .slice Br2 (natL z.natAbs).length er2] 27) := ⟨_, rfl⟩
  obtain ⟨q2, hq⟩ : ∃ q, q = wx2.heap.size := ⟨_, rfl⟩
  rw [← E, ← hq] at F ⊢
  clear E hq
  obtain ⟨O_d, V_d, -, -, -, PR, HB⟩ := F.out.h
  obtain ⟨l_d, a_d, b_d, c_d, d_d, -, -, -, -⟩ := V_d.quad.facts
  obtain ⟨l_r, a_r, b_r, c_r, d_r, e_r, f_r, g_r, h_r⟩ := PR.facts
  have HQ := Hd (PR.store (.bool (decide (z < 0))) (.slice Ar2 (natL z.natAbs).length cr2) (.bool (decide (z < 0))) (.slice Br2 (natL z.natAbs).length er2))
  have HB9 := Hd (below4 HB (show w.heap.size ≤ w.heap.size + 1 by omega) (.bool (decide (z < 0))) (.slice Ar2 (natL z.natAbs).length cr2) (.bool (decide (z < 0))) (.slice Br2 (natL z.natAbs).length er2))
  have HN9 := Hd (O_d.quad PR (.bool (decide (z < 0))) (.slice Ar2 (natL z.natAbs).length cr2) (.bool (decide (z < 0))) (.slice Br2 (natL z.natAbs).length er2))
  clear HB PR O_d V_d
  go_wp2_with fail
  obtain ⟨_, k0, k1, k2, k3, _, _, _, _⟩ := HQ.out.facts
  exact bodyPost_ret (by simp [results, Tryz.results22, go_sem, k0, k1, k2, k3]) rfl ⟨_, rfl, HN9.out, HB9.out⟩

theorem away_w3 (v : Nat) (n d r u N D s : Int) (A B : Option Addr) (c e0 : Nat) (w : World) (h_x : Raw w A c (natL n.natAbs)) (k_x : Raw w B e0 (natL d.natAbs)) (D3 : ∀ V : World, tzTab V → Calls Tryz.prog 11 #[.float .f64 v] V (RetFracOwn2 V.heap.size V r u 0)) (D4 : OpC 37 n d r u N D 0) (D5 : SignC N D s) (g1 : decide (s < 0) = false) (htz : tzTab w) :
    Calls Tryz.prog 22 #[.agg #[.bool (decide (n < 0)), .slice A (natL n.natAbs).length c, .bool (decide (d < 0)), .slice B (natL d.natAbs).length e0], .float .f64 v] w (RetAway w N D true) := by
  have H3 := Hd D3
  have H4 := Hd D4
  have H5 := Hd D5
  have HG1 := Hd g1
  clear D3 D4 D5 g1
  have HTZ := Hd htz
  clear htz
  have b0 := (((Below.refl w.heap.size w).alloc (Nat.le_refl _) (.cells #[.bool (decide (n < 0)), .slice A (natL n.natAbs).length c, .bool (decide (d < 0)), .slice B (natL d.natAbs).length e0] 27)).alloc (by simp) (.cells #[.bool false, .slice none 0 0, .bool false, .slice none 0 0] 27))
  have p0 := (Quad.new w (.bool (decide (n < 0))) (.slice A (natL n.natAbs).length c) (.bool (decide (d < 0))) (.slice B (natL d.natAbs).length e0)).alloc (.cells #[.bool false, .slice none 0 0, .bool false, .slice none 0 0] 27)
  have p1 := Quad.new (w.alloc (.cells #[.bool (decide (n < 0)), .slice A (natL n.natAbs).length c, .bool (decide (d < 0)), .slice B (natL d.natAbs).length e0] 27)) (.bool false) (.slice none 0 0) (.bool false) (.slice none 0 0)
  simp only [World.size_alloc] at p1
  have V_x := Hd (FV.mk p0 (h_x.below b0) (k_x.below b0))
  have KW_x := Hd k_x
  have P_r0 := Hd p1
  have RW_x := Hd h_x
  have HBW := Hd b0
  clear b0 p0 p1 h_x k_x
  go_enter Tryz.func22, Tryz.ntmps22
  obtain ⟨W, E⟩ : ∃ W, W = ((w.alloc (.cells #[.bool (decide (n < 0)), .slice A (natL n.natAbs).length c, .bool (decide (d < 0)), .slice B (natL d.natAbs).length e0] 27)).alloc (.cells #[.bool false, .slice none 0 0, .bool false, .slice none 0 0] 27)) := ⟨_, rfl⟩
  go_upto_region 1 with fail
  rw [← E] at V_x P_r0 HBW ⊢
  clear E
  have F := Hd ((((Kp.base HBW.out).add P_r0.out (fun _ _ => Quad.below)).add (HTZ.out.below HBW.out) (fun _ _ => tzTab.below)).add V_x.out (fun _ _ => FV.below))
  clear V_x P_r0 HBW HTZ KW_x RW_x
  obtain ⟨-, HZ, -⟩ := F.out.h
  go_wp2_with fail
  refine (H3.out W HZ).mono ?_
  rintro e wx1 ⟨v, rfl, hI, hb⟩
  obtain ⟨Ar1, cr1, Br1, er1, rfl, i1, i2, -⟩ := hI.form
  have hn := FV.new i1.rawAt i2.rawAt
  have ha := (Below.refl wx1.heap.size wx1).alloc (Nat.le_refl _) (.cells #[.bool (decide (r < 0)), .slice Ar1 (natL r.natAbs).length cr1, .bool (decide (u < 0)), .slice Br1 (natL u.natAbs).length er1] 27)
  have F := Hd (((F.out.below hb).below ha).add hn (fun _ _ => FV.below))
  clear HZ
  clear hI i1 i2 hb hn ha
  go_upto_region 2 with fail
  obtain ⟨wy1, E⟩ : ∃ W, W = wx1.alloc (.cells #[.bool (decide (r < 0)), .slice Ar1 (natL r.natAbs).length cr1, .bool (decide (u < 0)), .slice Br1 (natL u.natAbs).length er1] 27) := ⟨_, rfl⟩
  obtain ⟨q1, hq⟩ : ∃ q, q = wx1.heap.size := ⟨_, rfl⟩
  rw [← E, ← hq] at F ⊢
  clear E hq
  obtain ⟨V_w, V_x, -⟩ := F.out.h
  obtain ⟨l_x, a_x, b_x, c_x, d_x, -, -, -, -⟩ := V_x.quad.facts
  obtain ⟨l_w, a_w, b_w, c_w, d_w, -, -, -, -⟩ := V_w.quad.facts
  go_wp2_with fail
  refine (H4.out wy1 _ _ _ _ _ _ _ _ V_x.num V_x.den V_w.num V_w.den).mono ?_
  rintro e wx2 ⟨v, rfl, hI, hb⟩
  obtain ⟨Ar2, cr2, Br2, er2, rfl, i1, i2, -⟩ := hI.form
  have hn := FV.new i1.rawAt i2.rawAt
  have ha := (Below.refl wx2.heap.size wx2).alloc (Nat.le_refl _) (.cells #[.bool (decide (N < 0)), .slice Ar2 (natL N.natAbs).length cr2, .bool (decide (D < 0)), .slice Br2 (natL D.natAbs).length er2] 27)
  have F := Hd (((F.out.below hb).below ha).add hn (fun _ _ => FV.below))
  have F := Hd (F.out.add (show FracIn _ 0 (.agg #[.bool (decide (N < 0)), .slice Ar2 (natL N.natAbs).length cr2, .bool (decide (D < 0)), .slice Br2 (natL D.natAbs).length er2]) N D from ⟨_, _, _, _, rfl, (i1.base (Nat.zero_le _)).alloc _, (i2.base (Nat.zero_le _)).alloc _⟩) (fun _ _ => FracIn.below))
  clear l_x a_x b_x c_x d_x l_w a_w b_w c_w d_w V_w V_x
  clear hI i1 i2 hb hn ha
  go_upto_region 5 with fail
  obtain ⟨wy2, E⟩ : ∃ W, W = wx2.alloc (.cells #[.bool (decide (N < 0)), .slice Ar2 (natL N.natAbs).length cr2, .bool (decide (D < 0)), .slice Br2 (natL D.natAbs).length er2] 27) := ⟨_, rfl⟩
  obtain ⟨q2, hq⟩ : ∃ q, q = wx2.heap.size := ⟨_, rfl⟩
  rw [← E, ← hq] at F ⊢
  clear E hq
  have g1 := HG1.out
  obtain ⟨-, V_d, -⟩ := F.out.h
  obtain ⟨l_d, a_d, b_d, c_d, d_d, -, -, -, -⟩ := V_d.quad.facts
  go_wp2_with fail
  refine (H5.out wy2 _ _ _ _ V_d.num V_d.den).mono ?_
  rintro e wx3 ⟨rfl, hb⟩
  have F := Hd (F.out.below hb)
  clear l_d a_d b_d c_d d_d V_d
  clear hb
  go_upto_region 7 with fail
  clear g1
  obtain ⟨O_d, V_d, -, -, -, PR, HB⟩ := F.out.h
  obtain ⟨l_d, a_d, b_d, c_d, d_d, -, -, -, -⟩ := V_d.quad.facts
  obtain ⟨l_r, a_r, b_r, c_r, d_r, e_r, f_r, g_r, h_r⟩ := PR.facts
  have HQ := Hd (PR.store (.bool (decide (N < 0))) (.slice Ar2 (natL N.natAbs).length cr2) (.bool (decide (D < 0))) (.slice Br2 (natL D.natAbs).length er2))
  have HB9 := Hd (below4 HB (show w.heap.size ≤ w.heap.size + 1 by omega) (.bool (decide (N < 0))) (.slice Ar2 (natL N.natAbs).length cr2) (.bool (decide (D < 0))) (.slice Br2 (natL D.natAbs).length er2))
  have HN9 := Hd (O_d.quad PR (.bool (decide (N < 0))) (.slice Ar2 (natL N.natAbs).length cr2) (.bool (decide (D < 0))) (.slice Br2 (natL D.natAbs).length er2))
  clear HB PR O_d V_d
  go_wp2_with fail
  obtain ⟨_, k0, k1, k2, k3, _, _, _, _⟩ := HQ.out.facts
  exact bodyPost_ret (by simp [results, Tryz.results22, go_sem, k0, k1, k2, k3]) rfl ⟨_, rfl, HN9.out, HB9.out⟩

theorem away_w4 (v : Nat) (n d r u N D s p q : Int) (A B : Option Addr) (c e0 : Nat) (w : World) (h_x : Raw w A c (natL n.natAbs)) (k_x : Raw w B e0 (natL d.natAbs)) (D3 : ∀ V : World, tzTab V → Calls Tryz.prog 11 #[.float .f64 v] V (RetFracOwn2 V.heap.size V r u 0)) (D4 : OpC 37 n d r u N D 0) (D5 : SignC N D s) (g1 : decide (s < 0) = true) (D6 : OpC 37 r u n d p q 0) (htz : tzTab w) :
    Calls Tryz.prog 22 #[.agg #[.bool (decide (n < 0)), .slice A (natL n.natAbs).length c, .bool (decide (d < 0)), .slice B (natL d.natAbs).length e0], .float .f64 v] w (RetAway w p q true) := by
  have H3 := Hd D3
  have H4 := Hd D4
  have H5 := Hd D5
  have H6 := Hd D6
  have HG1 := Hd g1
  clear D3 D4 D5 D6 g1
  have HTZ := Hd htz
  clear htz
  have b0 := (((Below.refl w.heap.size w).alloc (Nat.le_refl _) (.cells #[.bool (decide (n < 0)), .slice A (natL n.natAbs).length c, .bool (decide (d < 0)), .slice B (natL d.natAbs).length e0] 27)).alloc (by simp) (.cells #[.bool false, .slice none 0 0, .bool false, .slice none 0 0] 27))
  have p0 := (Quad.new w (.bool (decide (n < 0))) (.slice A (natL n.natAbs).length c) (.bool (decide (d < 0))) (.slice B (natL d.natAbs).length e0)).alloc (.cells #[.bool false, .slice none 0 0, .bool false, .slice none 0 0] 27)
  have p1 := Quad.new (w.alloc (.cells #[.bool (decide (n < 0)), .slice A (natL n.natAbs).length c, .bool (decide (d < 0)), .slice B (natL d.natAbs).length e0] 27)) (.bool false) (.slice none 0 0) (.bool false) (.slice none 0 0)
  simp only [World.size_alloc] at p1
  have V_x := Hd (FV.mk p0 (h_x.below b0) (k_x.below b0))
  have KW_x := Hd k_x
  have P_r0 := Hd p1
  have RW_x := Hd h_x
  have HBW := Hd b0
  clear b0 p0 p1 h_x k_x
  go_enter Tryz.func22, Tryz.ntmps22
  obtain ⟨W, E⟩ : ∃ W, W = ((w.alloc (.cells #[.bool (decide (n < 0)), .slice A (natL n.natAbs).length c, .bool (decide (d < 0)), .slice B (natL d.natAbs).length e0] 27)).alloc (.cells #[.bool false, .slice none 0 0, .bool false, .slice none 0 0] 27)) := ⟨_, rfl⟩
  go_upto_region 1 with fail
  rw [← E] at V_x P_r0 HBW ⊢
  clear E
  have F := Hd ((((Kp.base HBW.out).add P_r0.out (fun _ _ => Quad.below)).add (HTZ.out.below HBW.out) (fun _ _ => tzTab.below)).add V_x.out (fun _ _ => FV.below))
  clear V_x P_r0 HBW HTZ KW_x RW_x
  obtain ⟨-, HZ, -⟩ := F.out.h
  go_wp2_with fail
  refine (H3.out W HZ).mono ?_
  rintro e wx1 ⟨v, rfl, hI, hb⟩
  obtain ⟨Ar1, cr1, Br1, er1, rfl, i1, i2, -⟩ := hI.form
  have hn := FV.new i1.rawAt i2.rawAt
  have ha := (Below.refl wx1.heap.size wx1).alloc (Nat.le_refl _) (.cells #[.bool (decide (r < 0)), .slice Ar1 (natL r.natAbs).length cr1, .bool (decide (u < 0)), .slice Br1 (natL u.natAbs).length er1] 27)
  have F := Hd (((F.out.below hb).below ha).add hn (fun _ _ => FV.below))
  clear HZ
  clear hI i1 i2 hb hn ha
  go_upto_region 2 with fail
  obtain ⟨wy1, E⟩ : ∃ W, W = wx1.alloc (.cells #[.bool (decide (r < 0)), .slice Ar1 (natL r.natAbs).length cr1, .bool (decide (u < 0)), .slice Br1 (natL u.natAbs).length er1] 27) := ⟨_, rfl⟩
  obtain ⟨q1, hq⟩ : ∃ q, q = wx1.heap.size := ⟨_, rfl⟩
  rw [← E, ← hq] at F ⊢
  clear E hq
  obtain ⟨V_w, V_x, -⟩ := F.out.h
  obtain ⟨l_x, a_x, b_x, c_x, d_x, -, -, -, -⟩ := V_x.quad.facts
  obtain ⟨l_w, a_w, b_w, c_w, d_w, -, -, -, -⟩ := V_w.quad.facts
  go_wp2_with fail
  refine (H4.out wy1 _ _ _ _ _ _ _ _ V_x.num V_x.den V_w.num V_w.den).mono ?_
  rintro e wx2 ⟨v, rfl, hI, hb⟩
  obtain ⟨Ar2, cr2, Br2, er2, rfl, i1, i2, -⟩ := hI.form
  obtain ⟨-, -, -, PR, HB⟩ := F.out.h
  have hlo2 := And.intro (Nat.le_trans HB.size hb.size) (Nat.lt_of_lt_of_le PR.blk.lt hb.size)
  clear HB PR
  have hn := FV.new i1.rawAt i2.rawAt
  have ha := (Below.refl wx2.heap.size wx2).alloc (Nat.le_refl _) (.cells #[.bool (decide (N < 0)), .slice Ar2 (natL N.natAbs).length cr2, .bool (decide (D < 0)), .slice Br2 (natL D.natAbs).length er2] 27)
  have F := Hd (((F.out.below hb).below ha).add hn (fun _ _ => FV.below))
  clear l_x a_x b_x c_x d_x l_w a_w b_w c_w d_w V_w V_x
  clear hI i1 i2 hb hn ha
  go_upto_region 5 with fail
  obtain ⟨wy2, E⟩ : ∃ W, W = wx2.alloc (.cells #[.bool (decide (N < 0)), .slice Ar2 (natL N.natAbs).length cr2, .bool (decide (D < 0)), .slice Br2 (natL D.natAbs).length er2] 27) := ⟨_, rfl⟩
  obtain ⟨q2, hq⟩ : ∃ q, q = wx2.heap.size := ⟨_, rfl⟩
  rw [← E, ← hq] at F ⊢
  rw [← hq] at hlo2
  clear E hq
  have HNE := Hd (show w.heap.size + 1 ≠ q2 from by have := hlo2.2; omega)
  have g1 := HG1.out
  obtain ⟨V_d, -⟩ := F.out.h
  obtain ⟨l_d, a_d, b_d, c_d, d_d, -, -, -, -⟩ := V_d.quad.facts
  go_wp2_with fail
  refine (H5.out wy2 _ _ _ _ V_d.num V_d.den).mono ?_
  rintro e wx3 ⟨rfl, hb⟩
  have F := Hd (F.out.below hb)
  clear l_d a_d b_d c_d d_d V_d
  clear hb
  go_upto_region 6 with fail
  clear g1
  obtain ⟨V_d, V_w, V_x, -, PR, HB⟩ := F.out.h
  obtain ⟨l_w, a_w, b_w, c_w, d_w, -, -, -, -⟩ := V_w.quad.facts
  obtain ⟨l_x, a_x, b_x, c_x, d_x, -, -, -, -⟩ := V_x.quad.facts
  go_wp2_with fail
  refine (H6.out wx3 _ _ _ _ _ _ _ _ V_w.num V_w.den V_x.num V_x.den).mono ?_
  rintro e w9 ⟨v, rfl, hI, hb⟩
  obtain ⟨A9, c9, B9, e9, rfl, i1, i2, -⟩ := hI.form
  clear l_w a_w b_w c_w d_w l_x a_x b_x c_x d_x
  have vd := V_d.below hb
  have pr := PR.below hb
  have hb9 := belowTo HB hb
  have hne := HNE.out
  have r1 := i1.rawAt.quad vd.quad (.bool (decide (p < 0))) (.slice A9 (natL p.natAbs).length c9) (.bool (decide (q < 0))) (.slice B9 (natL q.natAbs).length e9)
  have r2 := i2.rawAt.quad vd.quad (.bool (decide (p < 0))) (.slice A9 (natL p.natAbs).length c9) (.bool (decide (q < 0))) (.slice B9 (natL q.natAbs).length e9)
  have sd := vd.quad.store (.bool (decide (p < 0))) (.slice A9 (natL p.natAbs).length c9) (.bool (decide (q < 0))) (.slice B9 (natL q.natAbs).length e9)
  have pr2 := pr.far hne (.bool (decide (p < 0))) (.slice A9 (natL p.natAbs).length c9) (.bool (decide (q < 0))) (.slice B9 (natL q.natAbs).length e9)
  have hb10 := below4 hb9 hlo2.1 (.bool (decide (p < 0))) (.slice A9 (natL p.natAbs).length c9) (.bool (decide (q < 0))) (.slice B9 (natL q.natAbs).length e9)
  obtain ⟨l_d, a_d, b_d, c_d, d_d, e_d, f_d, g_d, h_d⟩ := vd.quad.facts
  have o9 := (show FracIn w9 0 (.agg #[.bool (decide (p < 0)), .slice A9 (natL p.natAbs).length c9, .bool (decide (q < 0)), .slice B9 (natL q.natAbs).length e9]) p q from ⟨_, _, _, _, rfl, i1.base (Nat.zero_le _), i2.base (Nat.zero_le _)⟩)
  have F9 := Hd (((((Kp.base hb10).add pr2 (fun _ _ => Quad.below)).add (show FV _ q2 p q A9 c9 B9 e9 from ⟨sd, r1, r2⟩) (fun _ _ => FV.below)).add (o9.quad vd.quad (.bool (decide (p < 0))) (.slice A9 (natL p.natAbs).length c9) (.bool (decide (q < 0))) (.slice B9 (natL q.natAbs).length e9)) (fun _ _ => FracIn.below)))
  clear o9 hI i1 i2 hb vd pr hb9 r1 r2 sd pr2 hb10 V_d PR HB V_w V_x
  go_upto_region 7 with fail
  obtain ⟨y9, E⟩ : ∃ W, W = ((((w9.setCell ⟨q2, 0, none⟩ (.bool (decide (p < 0)))).setCell ⟨q2, 1, none⟩ (.slice A9 (natL p.natAbs).length c9)).setCell ⟨q2, 2, none⟩ (.bool (decide (q < 0)))).setCell ⟨q2, 3, none⟩ (.slice B9 (natL q.natAbs).length e9)) := ⟨_, rfl⟩
  rw [← E] at F9 ⊢
  clear E l_d a_d b_d c_d d_d e_d f_d g_d h_d F
  have F := F9
  clear F9
  obtain ⟨O_d, V_d, PR, HB⟩ := F.out.h
  obtain ⟨l_d, a_d, b_d, c_d, d_d, -, -, -, -⟩ := V_d.quad.facts
  obtain ⟨l_r, a_r, b_r, c_r, d_r, e_r, f_r, g_r, h_r⟩ := PR.facts
  have HQ := Hd (PR.store (.bool (decide (p < 0))) (.slice A9 (natL p.natAbs).length c9) (.bool (decide (q < 0))) (.slice B9 (natL q.natAbs).length e9))
  have HB9 := Hd (below4 HB (show w.heap.size ≤ w.heap.size + 1 by omega) (.bool (decide (p < 0))) (.slice A9 (natL p.natAbs).length c9) (.bool (decide (q < 0))) (.slice B9 (natL q.natAbs).length e9))
  have HN9 := Hd (O_d.quad PR (.bool (decide (p < 0))) (.slice A9 (natL p.natAbs).length c9) (.bool (decide (q < 0))) (.slice B9 (natL q.natAbs).length e9))
  clear HB PR O_d V_d
  go_wp2_with fail
  obtain ⟨_, k0, k1, k2, k3, _, _, _, _⟩ := HQ.out.facts
  exact bodyPost_ret (by simp [results, Tryz.results22, go_sem, k0, k1, k2, k3]) rfl ⟨_, rfl, HN9.out, HB9.out⟩

theorem away_any {n d : Int} (f : Fine n d) (v : Nat) (hv : v < 18446744073709551616) (hn : frun v ≤ 9218868437227405312) : ∃ (N D : Int) (ok : Bool),
    (∀ (V : World) (A B : Option Addr) (c e0 : Nat), Raw V A c (natL n.natAbs) → Raw V B e0 (natL d.natAbs) → tzTab V → Calls Tryz.prog 22 #[.agg #[.bool (decide (n < 0)), .slice A (natL n.natAbs).length c, .bool (decide (d < 0)), .slice B (natL d.natAbs).length e0], .float .f64 v] V (RetAway V N D ok)) ∧
    (ok = true → Fine N D ∧ N * (d * unitQ) = (((n * unitQ - fint v * d).natAbs : Nat) : Int) * D) := by
  rcases (by omega : frun v < 9218868437227405312 ∨ frun v = 9218868437227405312) with h | h
  · have fv := fine_float h
    have D3 := fun (V : World) (t : tzTab V) => frac_FromFloat_fin v hv V h t
    obtain ⟨hc, hD⟩ := away_cross (n := n) v f.pos
    have key := ans_cases (n := subN n d (fltN v) (fltD v)) (d := subD n d (fltN v) (fltD v)) rfl rfl rfl
    rcases key with ⟨k0, k1, k2, k3, k4⟩ | ⟨k0, k1, k2⟩
    · have D4 := sub_c f fv k1.symm k2.symm k0.symm
      have fs : Fine (subN n d (fltN v) (fltD v)) (subD n d (fltN v) (fltD v)) := fine_low _ (Int.mul_pos f.pos fv.pos) k3 k4
      by_cases hs : subN n d (fltN v) (fltD v) < 0
      · obtain ⟨e1, e2⟩ := sub_rev (n := n) (m := fltN v) f.pos fv.pos
        have fr : Fine (subN (fltN v) (fltD v) n d) (subD (fltN v) (fltD v) n d) := fine_low _ (Int.mul_pos fv.pos f.pos) (show lz (subN (fltN v) (fltD v) n d) ≤ 2048 by rw [e1, lz_neg]; exact k3) (show lz (subD (fltN v) (fltD v) n d) ≤ 2048 by rw [e2]; exact k4)
        have a := ans_fine fr
        have D6 := sub_c fv f a.1.symm a.2.1.symm a.2.2.symm
        refine ⟨_, _, true, fun V A B c e0 r1 r2 ht => away_w4 v n d _ _ _ _ _ _ _ A B c e0 V r1 r2 D3 D4 (sign_c fs) (decide_eq_true (by rw [Int.sign_eq_neg_one_of_neg hs]; decide)) D6 ht, fun _ => ⟨fr, ?_⟩⟩
        rw [e2]
        exact away_abs hc f.pos hD (by rw [e1]; omega)
      · refine ⟨_, _, true, fun V A B c e0 r1 r2 ht => away_w3 v n d _ _ _ _ _ A B c e0 V r1 r2 D3 D4 (sign_c fs) (decide_eq_false (by have := Int.sign_nonneg_iff.2 (show 0 ≤ subN n d (fltN v) (fltD v) by omega); omega)) ht, fun _ => ⟨fs, ?_⟩⟩
        exact away_abs hc f.pos hD (by omega)
    · have D4 := sub_c f fv k1.symm k2.symm k0.symm
      exact ⟨0, 0, false, fun V A B c e0 r1 r2 ht => away_w2 v n d _ _ _ A B c e0 V r1 r2 D3 D4 ht, fun h => by cases h⟩
  · have D3 := fun (V : World) (t : tzTab V) => frac_FromFloat_inf v hv V h
    exact ⟨0, 0, false, fun V A B c e0 r1 r2 ht => away_w1 v n d _ _ A B c e0 V r1 r2 D3 ht, fun h => by cases h⟩
end Go.Proofs.YtipmkkobdbgphaaGreatDoor
