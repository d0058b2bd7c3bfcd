/- Several texts in one: Cmp, Cmp2, Tuple. -/
import Derived.Test.YtadmoheohmbieaaGreatDoorPk06
import Derived.Test.YtadmoheohmbieaaGreatDoorPk01
import Derived.Deep.MidRow
/- Numbers held against one another. -/
namespace Go.Proofs.YtadmoheohmbieaaGreatDoor
open Go.RowKit

/-- -1, 0, 1. -/
def cmpv (a b : Nat) : Int := if a < b then -1 else if b < a then 1 else 0
theorem cmpv_lt {a b : Nat} (h : a < b) : cmpv a b = -1 := by simp [cmpv, h]
theorem cmpv_gt {a b : Nat} (h : b < a) : cmpv a b = 1 := by simp [cmpv, h]; omega
theorem cmpv_eq (a : Nat) : cmpv a a = 0 := by simp [cmpv]
theorem val_split {xs : List Nat} {k : Nat} (h : k < xs.length) : val xs = val (xs.take k) + 4294967296 ^ k * (xs[k] + 4294967296 * val (xs.drop (k + 1))) := by
  conv => lhs; rw [← List.take_append_drop k xs, val_append, List.drop_eq_getElem_cons h]
  rw [List.length_take, Nat.min_eq_left (by omega)]
  rfl
theorem val_top {xs ys : List Nat} (hx : Limbs xs) {k : Nat} (h1 : k < xs.length) (h2 : k < ys.length) (hd : xs.drop (k + 1) = ys.drop (k + 1)) (hlt : xs[k] < ys[k]) : val xs < val ys := by
  rw [val_split h1, val_split h2, hd]
  have ht := val_lt (limbs_take hx k)
  rw [List.length_take, Nat.min_eq_left (by omega)] at ht
  have hm : 4294967296 ^ k * (xs[k] + 4294967296 * val (ys.drop (k + 1)) + 1) ≤ 4294967296 ^ k * (ys[k] + 4294967296 * val (ys.drop (k + 1))) := Nat.mul_le_mul_left _ (by omega)
  rw [Nat.mul_add, Nat.mul_one] at hm
  omega
theorem drop_same {xs ys : List Nat} {k : Nat} (h1 : k < xs.length) (h2 : k < ys.length) (hd : xs.drop (k + 1) = ys.drop (k + 1)) (he : xs[k] = ys[k]) : xs.drop k = ys.drop k := by
  rw [List.drop_eq_getElem_cons h1, List.drop_eq_getElem_cons h2, hd, he]
/-- Shorter is less. -/
theorem val_short {xs ys : List Nat} (hx : Limbs xs) (hy : Limbs ys) (hc : Canon ys) (hl : xs.length < ys.length) : val xs < val ys := by
  have h1 := val_lt hx
  rcases Nat.lt_or_ge (val ys) (4294967296 ^ (ys.length - 1)) with h | h
  · have := natL_length_le.2 h
    rw [natL_val hy hc] at this
    omega
  · have : 4294967296 ^ xs.length ≤ 4294967296 ^ (ys.length - 1) := Nat.pow_le_pow_right (by omega) (by omega)
    omega

set_option maxRecDepth 100000 in
set_option maxHeartbeats 1000000 in
theorem exact_size_same (A B : Option Addr) (c d : Nat) (xs ys : List Nat) (hlen : xs.length = ys.length) (w : World) (h : Raw w A c xs) (g : Raw w B d ys) :
    Calls Tryz.prog 227 #[.slice A xs.length c, .slice B ys.length d] w fun e w' => e = .returned (.int .i64 (cmpv (val xs) (val ys))) ∧ Below w.heap.size w w' := by
  have HX := Lib.hid h
  have HY := Lib.hid g
  have hm := h.most
  have hc := h.cap
  have HE := Lib.hid hlen
  rw [← hlen]
  clear h g hlen
  go_enter Tryz.func227, Tryz.ntmps227
  go_wp2_with fail
  go_loopw [5] (fun i wr => ∃ k m : Nat, i = .int .i64 ((k : Int) - 1) ∧ k ≤ xs.length ∧ xs.drop k = ys.drop k ∧ wr = w.drewN m) (fun i _ => (intOf i + 1).toNat)
  case atStart => exact ⟨xs.length, 0, rfl, Nat.le_refl _, by rw [List.drop_length, HE.out, List.drop_length], rfl⟩
  case round =>
    obtain ⟨k, m, rfl, hk, hdrop, rfl⟩ := hrel
    have HD := Lib.hid hdrop
    clear hdrop
    cases k with
    | zero =>
      have fin : cmpv (val xs) (val ys) = 0 := by
        have e : xs = ys := by simpa using HD.out
        rw [e]; exact cmpv_eq _
      have HF := Lib.hid fin
      clear fin
      go_wp2
      go_ret
      exact ⟨by rw [HF.out]; rfl, below_drewN (Below.refl _ _) _⟩
    | succ k =>
      have h2 : k < ys.length := by rw [← HE.out]; omega
      obtain ⟨ad, rfl, hbl, hcell⟩ := HX.out.reads.get (k := k) (by omega)
      obtain ⟨bd, rfl, hbl2, hcell2⟩ := HY.out.reads.get h2
      have a0 : (0 : Int) ≤ (k : Int) := by omega
      have a1 : (k : Int) < (xs.length : Int) := by omega
      have ae : ((k + 1 : Nat) : Int) - 1 = (k : Int) := by omega
      rw [ae]
      have hcase : xs[k] = ys[k] ∨ xs[k] < ys[k] ∨ ys[k] < xs[k] := by omega
      rcases hcase with he | he | he
      · have HQ := Lib.hid he
        rw [← he] at hcell2
        clear he ae
        generalize hz : xs[k] = z at hcell hcell2
        clear hz
        go_wp2_with fail
        go_quiet (fail)
        go_wp2_with fail
        go_roundw
        case rel => exact ⟨k, _, by go_num, by omega, drop_same (by omega) h2 HD.out HQ.out, rfl⟩
        case measure => simp [intOf]
      · have fin : cmpv (val xs) (val ys) = -1 := cmpv_lt (val_top HX.out.limbs (by omega) h2 HD.out he)
        have HF := Lib.hid fin
        have hlt : (xs[k] : Int) < (ys[k] : Int) := by omega
        have hne : ((xs[k] : Int) == (ys[k] : Int)) = false := by simp; omega
        have hne2 : ((xs[k] : Int) != (ys[k] : Int)) = true := by simp; omega
        clear fin he ae
        generalize xs[k] = y at *
        generalize ys[k] = z at *
        go_wp2_with fail
        go_quiet (fail)
        go_wp2_with fail
        go_quiet (fail)
        go_wp2
        go_ret
        exact ⟨by rw [HF.out]; rfl, by repeat (first | exact Below.refl _ _ | apply below_drewN)⟩
      · have fin : cmpv (val xs) (val ys) = 1 := cmpv_gt (val_top HY.out.limbs h2 (by omega) HD.out.symm he)
        have HF := Lib.hid fin
        have hlt : (ys[k] : Int) < (xs[k] : Int) := by omega
        have hne : ((xs[k] : Int) == (ys[k] : Int)) = false := by simp; omega
        have hne2 : ((xs[k] : Int) != (ys[k] : Int)) = true := by simp; omega
        clear fin he ae
        generalize xs[k] = y at *
        generalize ys[k] = z at *
        go_wp2_with fail
        go_quiet (fail)
        go_wp2_with fail
        go_quiet (fail)
        go_wp2
        go_ret
        exact ⟨by rw [HF.out]; rfl, by repeat (first | exact Below.refl _ _ | apply below_drewN)⟩
set_option maxRecDepth 100000 in
set_option maxHeartbeats 1000000 in
theorem ref_cmp_same (A B : Option Addr) (c d : Nat) (xs ys : List Nat) (hlen : xs.length = ys.length) (w : World) (h : Raw w A c xs) (g : Raw w B d ys) :
    Calls Tryz.prog 234 #[.slice A xs.length c, .slice B ys.length d] w fun e w' => e = .returned (.int .i64 (cmpv (val xs) (val ys))) ∧ Below w.heap.size w w' := by
  have HX := Lib.hid h
  have HY := Lib.hid g
  have hm := h.most
  have hc := h.cap
  have HE := Lib.hid hlen
  rw [← hlen]
  clear h g hlen
  go_enter Tryz.func234, Tryz.ntmps234
  go_wp2_with fail
  go_loopw [5] (fun i wr => ∃ k m : Nat, i = .int .i64 ((k : Int) - 1) ∧ k ≤ xs.length ∧ xs.drop k = ys.drop k ∧ wr = w.drewN m) (fun i _ => (intOf i + 1).toNat)
  case atStart => exact ⟨xs.length, 0, rfl, Nat.le_refl _, by rw [List.drop_length, HE.out, List.drop_length], rfl⟩
  case round =>
    obtain ⟨k, m, rfl, hk, hdrop, rfl⟩ := hrel
    have HD := Lib.hid hdrop
    clear hdrop
    cases k with
    | zero =>
      have fin : cmpv (val xs) (val ys) = 0 := by
        have e : xs = ys := by simpa using HD.out
        rw [e]; exact cmpv_eq _
      have HF := Lib.hid fin
      clear fin
      go_wp2
      go_ret
      exact ⟨by rw [HF.out]; rfl, below_drewN (Below.refl _ _) _⟩
    | succ k =>
      have h2 : k < ys.length := by rw [← HE.out]; omega
      obtain ⟨ad, rfl, hbl, hcell⟩ := HX.out.reads.get (k := k) (by omega)
      obtain ⟨bd, rfl, hbl2, hcell2⟩ := HY.out.reads.get h2
      have a0 : (0 : Int) ≤ (k : Int) := by omega
      have a1 : (k : Int) < (xs.length : Int) := by omega
      have ae : ((k + 1 : Nat) : Int) - 1 = (k : Int) := by omega
      rw [ae]
      have hcase : xs[k] = ys[k] ∨ xs[k] < ys[k] ∨ ys[k] < xs[k] := by omega
      rcases hcase with he | he | he
      · have HQ := Lib.hid he
        rw [← he] at hcell2
        clear he ae
        generalize hz : xs[k] = z at hcell hcell2
        clear hz
        go_wp2_with fail
        go_quiet (fail)
        go_wp2_with fail
        go_quiet (fail)
        go_wp2_with fail
        go_roundw
        case rel => exact ⟨k, _, by go_num, by omega, drop_same (by omega) h2 HD.out HQ.out, rfl⟩
        case measure => simp [intOf]
      · have fin : cmpv (val xs) (val ys) = -1 := cmpv_lt (val_top HX.out.limbs (by omega) h2 HD.out he)
        have HF := Lib.hid fin
        have hlt : (xs[k] : Int) < (ys[k] : Int) := by omega
        have hne : ((xs[k] : Int) == (ys[k] : Int)) = false := by simp; omega
        have hne2 : ((xs[k] : Int) != (ys[k] : Int)) = true := by simp; omega
        clear fin he ae
        generalize xs[k] = y at *
        generalize ys[k] = z at *
        go_wp2_with fail
        go_quiet (fail)
        go_wp2_with fail
        go_wp2
        go_ret
        exact ⟨by rw [HF.out]; rfl, by repeat (first | exact Below.refl _ _ | apply below_drewN)⟩
      · have fin : cmpv (val xs) (val ys) = 1 := cmpv_gt (val_top HY.out.limbs h2 (by omega) HD.out.symm he)
        have HF := Lib.hid fin
        have hlt : (ys[k] : Int) < (xs[k] : Int) := by omega
        have hne : ((xs[k] : Int) == (ys[k] : Int)) = false := by simp; omega
        have hne2 : ((xs[k] : Int) != (ys[k] : Int)) = true := by simp; omega
        clear fin he ae
        generalize xs[k] = y at *
        generalize ys[k] = z at *
        go_wp2_with fail
        go_quiet (fail)
        go_wp2_with fail
        go_quiet (fail)
        go_wp2
        go_ret
        exact ⟨by rw [HF.out]; rfl, by repeat (first | exact Below.refl _ _ | apply below_drewN)⟩

set_option maxRecDepth 100000 in
set_option maxHeartbeats 400000 in
theorem exact_size_apart (A B : Option Addr) (c d n m : Nat) (hne : n ≠ m) (hn : n ≤ 4611686018427387904) (hm : m ≤ 4611686018427387904) (w : World) :
    Calls Tryz.prog 227 #[.slice A n c, .slice B m d] w fun e w' => e = .returned (.int .i64 ((n : Int) - (m : Int))) ∧ w = w' := by
  have h1 : ((n : Int) == (m : Int)) = false := by simp; omega
  have h2 : ((n : Int) != (m : Int)) = true := by simp; omega
  clear hne
  go_enter Tryz.func227, Tryz.ntmps227
  go_wp2
  go_ret
  exact ⟨rfl, rfl⟩
set_option maxRecDepth 100000 in
set_option maxHeartbeats 400000 in
theorem ref_cmp_short (A B : Option Addr) (c d n m : Nat) (hlt : n < m) (w : World) :
    Calls Tryz.prog 234 #[.slice A n c, .slice B m d] w fun e w' => e = .returned (.int .i64 (-1)) ∧ w = w' := by
  have h1 : ((n : Int) == (m : Int)) = false := by simp; omega
  have h2 : ((n : Int) != (m : Int)) = true := by simp; omega
  have h3 : (n : Int) < (m : Int) := by omega
  clear hlt
  go_enter Tryz.func234, Tryz.ntmps234
  go_wp2
  go_ret
  exact ⟨rfl, rfl⟩
set_option maxRecDepth 100000 in
set_option maxHeartbeats 400000 in
theorem ref_cmp_longer (A B : Option Addr) (c d n m : Nat) (hlt : m < n) (w : World) :
    Calls Tryz.prog 234 #[.slice A n c, .slice B m d] w fun e w' => e = .returned (.int .i64 1) ∧ w = w' := by
  have h1 : ((n : Int) == (m : Int)) = false := by simp; omega
  have h2 : ((n : Int) != (m : Int)) = true := by simp; omega
  have h3 : ¬ (n : Int) < (m : Int) := by omega
  clear hlt
  go_enter Tryz.func234, Tryz.ntmps234
  go_wp2
  go_ret
  exact ⟨rfl, rfl⟩

/-- Limbs held against limbs: less, the same, more. -/
def SizeTold (xs ys : List Nat) (w : World) (e : Ending) (w' : World) : Prop :=
  ∃ z : Int, e = .returned (.int .i64 z) ∧ -4611686018427387904 ≤ z ∧ z ≤ 4611686018427387904 ∧ (val xs < val ys → z < 0) ∧ (val xs = val ys → z = 0) ∧ (val ys < val xs → 0 < z) ∧ Below w.heap.size w w'

theorem exact_size_any (A B : Option Addr) (c d : Nat) (xs ys : List Nat) (hcx : Canon xs) (hcy : Canon ys) (hn : xs.length ≤ 4611686018427387904) (hm : ys.length ≤ 4611686018427387904) (w : World) (h : Raw w A c xs) (g : Raw w B d ys) :
    Calls Tryz.prog 227 #[.slice A xs.length c, .slice B ys.length d] w (SizeTold xs ys w) := by
  by_cases hl : xs.length = ys.length
  · refine (exact_size_same A B c d xs ys hl w h g).mono fun e w' ⟨he, hb⟩ => ⟨_, he, ?_, ?_, ?_, ?_, ?_, hb⟩
    · unfold cmpv; split <;> (try split) <;> omega
    · unfold cmpv; split <;> (try split) <;> omega
    · intro h1; rw [cmpv_lt h1]; omega
    · intro h1; rw [h1, cmpv_eq]
    · intro h1; rw [cmpv_gt h1]; omega
  · refine (exact_size_apart A B c d _ _ hl hn hm w).mono fun e w' ⟨he, hw⟩ => ⟨_, he, by omega, by omega, ?_, ?_, ?_, hw ▸ Below.refl _ _⟩
    · intro h1
      rcases Nat.lt_or_ge xs.length ys.length with h2 | h2
      · omega
      · have := val_short g.limbs h.limbs hcx (show ys.length < xs.length by omega); omega
    · intro h1
      rcases Nat.lt_or_ge xs.length ys.length with h2 | h2
      · have := val_short h.limbs g.limbs hcy h2; omega
      · have := val_short g.limbs h.limbs hcx (show ys.length < xs.length by omega); omega
    · intro h1
      rcases Nat.lt_or_ge xs.length ys.length with h2 | h2
      · have := val_short h.limbs g.limbs hcy h2; omega
      · omega

theorem ref_cmp_any (A B : Option Addr) (c d : Nat) (xs ys : List Nat) (hcx : Canon xs) (hcy : Canon ys) (w : World) (h : Raw w A c xs) (g : Raw w B d ys) :
    Calls Tryz.prog 234 #[.slice A xs.length c, .slice B ys.length d] w fun e w' => e = .returned (.int .i64 (cmpv (val xs) (val ys))) ∧ Below w.heap.size w w' := by
  by_cases hl : xs.length = ys.length
  · exact ref_cmp_same A B c d xs ys hl w h g
  · rcases Nat.lt_or_ge xs.length ys.length with h2 | h2
    · rw [cmpv_lt (val_short h.limbs g.limbs hcy h2)]
      exact (ref_cmp_short A B c d _ _ h2 w).mono fun e w' ⟨he, hw⟩ => ⟨he, hw ▸ Below.refl _ _⟩
    · rw [cmpv_gt (val_short g.limbs h.limbs hcx (show ys.length < xs.length by omega))]
      exact (ref_cmp_longer A B c d _ _ (by omega) w).mono fun e w' ⟨he, hw⟩ => ⟨he, hw ▸ Below.refl _ _⟩
end Go.Proofs.YtadmoheohmbieaaGreatDoor

/- Cmp, over numbers that may be. (Written by wip/exact/gencmp.py.) -/
namespace Go.Proofs.YtadmoheohmbieaaGreatDoor
open Go.RowKit

set_option maxRecDepth 100000 in
set_option maxHeartbeats 1000000 in
theorem exact_Cmp_less (n1 n2 : Bool) (A B : Option Addr) (c d : Nat) (xs ys : List Nat) (a b : Int) (hab : a < b) (hs1 : sgnI n1 xs = a) (hs2 : sgnI n2 ys = b) (w : World) (h : Raw w A c xs) (g : Raw w B d ys) :
    Calls Tryz.prog 156 #[.agg #[.bool n1, .slice A xs.length c], .agg #[.bool n2, .slice B ys.length d]] w fun e w' => e = .returned (.int .i64 (-1)) ∧ Below w.heap.size w w' := by
  have HS1 := Lib.hid hs1
  have HS2 := Lib.hid hs2
  have e1 : (a == b) = false := by simp; omega
  have e2 : (a != b) = true := by simp; omega
  clear hs1 hs2
  have p0 := (Pair.new w 24 (.bool n1) (.slice A xs.length c)).alloc (.cells #[.bool n2, .slice B ys.length d] 24)
  have q0 := Pair.new (w.alloc (.cells #[.bool n1, .slice A xs.length c] 24)) 24 (.bool n2) (.slice B ys.length d)
  have b0 := ((Below.refl w.heap.size w).alloc (Nat.le_refl _) (.cells #[.bool n1, .slice A xs.length c] 24)).alloc (by simp) (.cells #[.bool n2, .slice B ys.length d] 24)
  have hx := (h.alloc (.cells #[.bool n1, .slice A xs.length c] 24)).alloc (.cells #[.bool n2, .slice B ys.length d] 24)
  have hy := (g.alloc (.cells #[.bool n1, .slice A xs.length c] 24)).alloc (.cells #[.bool n2, .slice B ys.length d] 24)
  simp only [World.size_alloc] at q0
  go_enter Tryz.func156, Tryz.ntmps156
  go_wp2_with fail
  obtain ⟨W, E⟩ : ∃ W, W = (w.alloc (.cells #[.bool n1, .slice A xs.length c] 24)).alloc (.cells #[.bool n2, .slice B ys.length d] 24) := ⟨_, rfl⟩
  rw [← E] at p0 q0 b0 hx hy ⊢
  clear E
  have D1 := fun (V : World) (hV : Below W.heap.size W V) => exact_Sign_any n1 A c xs V (hx.below hV)
  have D2 := fun (V : World) (hV : Below W.heap.size W V) => exact_Sign_any n2 B d ys V (hy.below hV)
  rw [HS1.out] at D1
  rw [HS2.out] at D2
  have H1 := Lib.hid D1
  have H2 := Lib.hid D2
  have HX := Lib.hid hx
  have HY := Lib.hid hy
  obtain ⟨l1, c0, c1, -, -⟩ := p0.facts
  obtain ⟨l2, d0, d1, -, -⟩ := q0.facts
  clear D1 D2 hx hy h g
  go_region_held3 (fun w' => Below W.heap.size W w' ∧ ∀ b o, b < W.heap.size → w'.cell? ⟨b, o, none⟩ = W.cell? ⟨b, o, none⟩)
    (first
      | exact ⟨(Below.refl _ _).drew, fun _ _ _ => rfl⟩
      | (obtain ⟨q, _⟩ := ‹Below W.heap.size W _ ∧ _›; have q' := belowTo q hbx; exact ⟨q', fun b o h => q'.cell (p := ⟨b, o, none⟩) h⟩))
    (first
      | (go_at_call 59; with_reducible refine (H1.out _ ?_).mono ?_; exact (‹Below W.heap.size W _ ∧ _›).1; rintro e wx ⟨rfl, hbx⟩)
      | (go_at_call 59; with_reducible refine (H2.out _ ?_).mono ?_; exact (‹Below W.heap.size W _ ∧ _›).1; rintro e wx ⟨rfl, hbx⟩))
  obtain ⟨q, _⟩ := ‹Below W.heap.size W _ ∧ _›
  obtain ⟨w2, E⟩ : ∃ V, V = wx := ⟨_, rfl⟩
  rw [← E] at q ⊢
  clear E hbx
  clear c0 c1 d0 d1
  go_wp2
  go_ret
  exact ⟨rfl, b0.trans (q.mono b0.size)⟩

set_option maxRecDepth 100000 in
set_option maxHeartbeats 1000000 in
theorem exact_Cmp_more (n1 n2 : Bool) (A B : Option Addr) (c d : Nat) (xs ys : List Nat) (a b : Int) (hab : b < a) (hs1 : sgnI n1 xs = a) (hs2 : sgnI n2 ys = b) (w : World) (h : Raw w A c xs) (g : Raw w B d ys) :
    Calls Tryz.prog 156 #[.agg #[.bool n1, .slice A xs.length c], .agg #[.bool n2, .slice B ys.length d]] w fun e w' => e = .returned (.int .i64 1) ∧ Below w.heap.size w w' := by
  have HS1 := Lib.hid hs1
  have HS2 := Lib.hid hs2
  have e1 : (a == b) = false := by simp; omega
  have e2 : (a != b) = true := by simp; omega
  clear hs1 hs2
  have p0 := (Pair.new w 24 (.bool n1) (.slice A xs.length c)).alloc (.cells #[.bool n2, .slice B ys.length d] 24)
  have q0 := Pair.new (w.alloc (.cells #[.bool n1, .slice A xs.length c] 24)) 24 (.bool n2) (.slice B ys.length d)
  have b0 := ((Below.refl w.heap.size w).alloc (Nat.le_refl _) (.cells #[.bool n1, .slice A xs.length c] 24)).alloc (by simp) (.cells #[.bool n2, .slice B ys.length d] 24)
  have hx := (h.alloc (.cells #[.bool n1, .slice A xs.length c] 24)).alloc (.cells #[.bool n2, .slice B ys.length d] 24)
  have hy := (g.alloc (.cells #[.bool n1, .slice A xs.length c] 24)).alloc (.cells #[.bool n2, .slice B ys.length d] 24)
  simp only [World.size_alloc] at q0
  go_enter Tryz.func156, Tryz.ntmps156
  go_wp2_with fail
  obtain ⟨W, E⟩ : ∃ W, W = (w.alloc (.cells #[.bool n1, .slice A xs.length c] 24)).alloc (.cells #[.bool n2, .slice B ys.length d] 24) := ⟨_, rfl⟩
  rw [← E] at p0 q0 b0 hx hy ⊢
  clear E
  have D1 := fun (V : World) (hV : Below W.heap.size W V) => exact_Sign_any n1 A c xs V (hx.below hV)
  have D2 := fun (V : World) (hV : Below W.heap.size W V) => exact_Sign_any n2 B d ys V (hy.below hV)
  rw [HS1.out] at D1
  rw [HS2.out] at D2
  have H1 := Lib.hid D1
  have H2 := Lib.hid D2
  have HX := Lib.hid hx
  have HY := Lib.hid hy
  obtain ⟨l1, c0, c1, -, -⟩ := p0.facts
  obtain ⟨l2, d0, d1, -, -⟩ := q0.facts
  clear D1 D2 hx hy h g
  go_region_held3 (fun w' => Below W.heap.size W w' ∧ ∀ b o, b < W.heap.size → w'.cell? ⟨b, o, none⟩ = W.cell? ⟨b, o, none⟩)
    (first
      | exact ⟨(Below.refl _ _).drew, fun _ _ _ => rfl⟩
      | (obtain ⟨q, _⟩ := ‹Below W.heap.size W _ ∧ _›; have q' := belowTo q hbx; exact ⟨q', fun b o h => q'.cell (p := ⟨b, o, none⟩) h⟩))
    (first
      | (go_at_call 59; with_reducible refine (H1.out _ ?_).mono ?_; exact (‹Below W.heap.size W _ ∧ _›).1; rintro e wx ⟨rfl, hbx⟩)
      | (go_at_call 59; with_reducible refine (H2.out _ ?_).mono ?_; exact (‹Below W.heap.size W _ ∧ _›).1; rintro e wx ⟨rfl, hbx⟩))
  obtain ⟨q, _⟩ := ‹Below W.heap.size W _ ∧ _›
  obtain ⟨w2, E⟩ : ∃ V, V = wx := ⟨_, rfl⟩
  rw [← E] at q ⊢
  clear E hbx
  clear c0 c1 d0 d1
  go_wp2
  go_ret
  exact ⟨rfl, b0.trans (q.mono b0.size)⟩

set_option maxRecDepth 100000 in
set_option maxHeartbeats 1000000 in
theorem exact_Cmp_same (n1 n2 : Bool) (A B : Option Addr) (c d : Nat) (xs ys : List Nat) (a : Int) (ha : a = -1 ∧ n1 = true ∨ 0 ≤ a ∧ n1 = false) (hs1 : sgnI n1 xs = a) (hs2 : sgnI n2 ys = a) (hcx : Canon xs) (hcy : Canon ys) (hn : xs.length ≤ 4611686018427387904) (hm : ys.length ≤ 4611686018427387904) (w : World) (h : Raw w A c xs) (g : Raw w B d ys) :
    Calls Tryz.prog 156 #[.agg #[.bool n1, .slice A xs.length c], .agg #[.bool n2, .slice B ys.length d]] w fun e w' => e = .returned (.int .i64 (if n1 then cmpv (val ys) (val xs) else cmpv (val xs) (val ys))) ∧ Below w.heap.size w w' := by
  have HS1 := Lib.hid hs1
  have HS2 := Lib.hid hs2
  have e1 : (a == a) = true := by simp
  have e2 : (a != a) = false := by simp
  have HA := Lib.hid ha
  clear hs1 hs2 ha
  have p0 := (Pair.new w 24 (.bool n1) (.slice A xs.length c)).alloc (.cells #[.bool n2, .slice B ys.length d] 24)
  have q0 := Pair.new (w.alloc (.cells #[.bool n1, .slice A xs.length c] 24)) 24 (.bool n2) (.slice B ys.length d)
  have b0 := ((Below.refl w.heap.size w).alloc (Nat.le_refl _) (.cells #[.bool n1, .slice A xs.length c] 24)).alloc (by simp) (.cells #[.bool n2, .slice B ys.length d] 24)
  have hx := (h.alloc (.cells #[.bool n1, .slice A xs.length c] 24)).alloc (.cells #[.bool n2, .slice B ys.length d] 24)
  have hy := (g.alloc (.cells #[.bool n1, .slice A xs.length c] 24)).alloc (.cells #[.bool n2, .slice B ys.length d] 24)
  simp only [World.size_alloc] at q0
  go_enter Tryz.func156, Tryz.ntmps156
  go_wp2_with fail
  obtain ⟨W, E⟩ : ∃ W, W = (w.alloc (.cells #[.bool n1, .slice A xs.length c] 24)).alloc (.cells #[.bool n2, .slice B ys.length d] 24) := ⟨_, rfl⟩
  rw [← E] at p0 q0 b0 hx hy ⊢
  clear E
  have D1 := fun (V : World) (hV : Below W.heap.size W V) => exact_Sign_any n1 A c xs V (hx.below hV)
  have D2 := fun (V : World) (hV : Below W.heap.size W V) => exact_Sign_any n2 B d ys V (hy.below hV)
  rw [HS1.out] at D1
  rw [HS2.out] at D2
  have H1 := Lib.hid D1
  have H2 := Lib.hid D2
  have HX := Lib.hid hx
  have HY := Lib.hid hy
  obtain ⟨l1, c0, c1, -, -⟩ := p0.facts
  obtain ⟨l2, d0, d1, -, -⟩ := q0.facts
  clear D1 D2 hx hy h g
  go_region_held3 (fun w' => Below W.heap.size W w' ∧ ∀ b o, b < W.heap.size → w'.cell? ⟨b, o, none⟩ = W.cell? ⟨b, o, none⟩)
    (first
      | exact ⟨(Below.refl _ _).drew, fun _ _ _ => rfl⟩
      | (obtain ⟨q, _⟩ := ‹Below W.heap.size W _ ∧ _›; have q' := belowTo q hbx; exact ⟨q', fun b o h => q'.cell (p := ⟨b, o, none⟩) h⟩))
    (first
      | (go_at_call 59; with_reducible refine (H1.out _ ?_).mono ?_; exact (‹Below W.heap.size W _ ∧ _›).1; rintro e wx ⟨rfl, hbx⟩)
      | (go_at_call 59; with_reducible refine (H2.out _ ?_).mono ?_; exact (‹Below W.heap.size W _ ∧ _›).1; rintro e wx ⟨rfl, hbx⟩))
  obtain ⟨q, _⟩ := ‹Below W.heap.size W _ ∧ _›
  obtain ⟨w2, E⟩ : ∃ V, V = wx := ⟨_, rfl⟩
  rw [← E] at q ⊢
  clear E hbx
  clear c0 c1 d0 d1
  have hx2 := HX.out.below q
  have hy2 := HY.out.below q
  have p2 := p0.below q
  have q2 := q0.below q
  obtain ⟨k1, c0, c1, -, -⟩ := p2.facts
  obtain ⟨k2, d0, d1, -, -⟩ := q2.facts
  have b2 := b0.trans (q.mono b0.size)
  clear p0 q0 b0 q l1 l2 p2 q2 HX HY H1 H2
  go_wp2_with fail
  refine (exact_size_any A B c d xs ys hcx hcy hn hm _ hx2 hy2).mono ?_
  rintro e w3 ⟨z, rfl, hz1, hz2, t1, t2, t3, hb⟩
  have b3 := belowTo b2 hb
  have c0' : w3.cell? ⟨w.heap.size, 0, none⟩ = some (.bool n1) := by rw [hb.cell k1]; exact c0
  clear hx2 hy2 c0 c1 d0 d1 hb b2
  have hcase : val xs < val ys ∨ val xs = val ys ∨ val ys < val xs := by omega
  cases n1 <;> rcases hcase with hc | hc | hc
  · have fin : cmpv (val xs) (val ys) = -1 := cmpv_lt hc
    have HF := Lib.hid fin
    have hz := t1 hc
    clear fin t1 t2 t3 hc HA
    have hmx : max (-1) (min 1 z) = -1 := by omega
    have HM := Lib.hid hmx
    clear hmx
    go_wp2
    go_ret
    exact ⟨by show _ = Ending.returned (.int .i64 (cmpv (val xs) (val ys))); rw [HF.out]; show Ending.returned (.int .i64 (max (-1) (min 1 z))) = _; rw [HM.out], b3⟩
  · have fin : cmpv (val xs) (val ys) = 0 := by rw [hc]; exact cmpv_eq _
    have HF := Lib.hid fin
    have hz := t2 hc
    clear fin t1 t2 t3 hc HA
    subst hz
    go_wp2
    go_ret
    exact ⟨by show _ = Ending.returned (.int .i64 (cmpv (val xs) (val ys))); rw [HF.out]; rfl, b3⟩
  · have fin : cmpv (val xs) (val ys) = 1 := cmpv_gt hc
    have HF := Lib.hid fin
    have hz := t3 hc
    clear fin t1 t2 t3 hc HA
    have hmx : max (-1) (min 1 z) = 1 := by omega
    have HM := Lib.hid hmx
    clear hmx
    go_wp2
    go_ret
    exact ⟨by show _ = Ending.returned (.int .i64 (cmpv (val xs) (val ys))); rw [HF.out]; show Ending.returned (.int .i64 (max (-1) (min 1 z))) = _; rw [HM.out], b3⟩
  · have fin : cmpv (val ys) (val xs) = 1 := cmpv_gt hc
    have HF := Lib.hid fin
    have hz := t1 hc
    clear fin t1 t2 t3 hc HA
    have hmx : max (-1) (min 1 (-z)) = 1 := by omega
    have HM := Lib.hid hmx
    clear hmx
    go_wp2
    go_ret
    exact ⟨by show _ = Ending.returned (.int .i64 (cmpv (val ys) (val xs))); rw [HF.out]; show Ending.returned (.int .i64 (max (-1) (min 1 (-z)))) = _; rw [HM.out], b3⟩
  · have fin : cmpv (val ys) (val xs) = 0 := by rw [hc]; exact cmpv_eq _
    have HF := Lib.hid fin
    have hz := t2 hc
    clear fin t1 t2 t3 hc HA
    subst hz
    go_wp2
    go_ret
    exact ⟨by show _ = Ending.returned (.int .i64 (cmpv (val ys) (val xs))); rw [HF.out]; rfl, b3⟩
  · have fin : cmpv (val ys) (val xs) = -1 := cmpv_lt hc
    have HF := Lib.hid fin
    have hz := t3 hc
    clear fin t1 t2 t3 hc HA
    have hmx : max (-1) (min 1 (-z)) = -1 := by omega
    have HM := Lib.hid hmx
    clear hmx
    go_wp2
    go_ret
    exact ⟨by show _ = Ending.returned (.int .i64 (cmpv (val ys) (val xs))); rw [HF.out]; show Ending.returned (.int .i64 (max (-1) (min 1 (-z)))) = _; rw [HM.out], b3⟩

set_option maxRecDepth 100000 in
set_option maxHeartbeats 1000000 in
theorem ref_Cmp_less (n1 n2 : Bool) (A B : Option Addr) (c d : Nat) (xs ys : List Nat) (a b : Int) (hab : a < b) (hs1 : sgnI n1 xs = a) (hs2 : sgnI n2 ys = b) (w : World) (h : Raw w A c xs) (g : Raw w B d ys) :
    Calls Tryz.prog 165 #[.agg #[.bool n1, .slice A xs.length c], .agg #[.bool n2, .slice B ys.length d]] w fun e w' => e = .returned (.int .i64 (-1)) ∧ Below w.heap.size w w' := by
  have HS1 := Lib.hid hs1
  have HS2 := Lib.hid hs2
  have e1 : (a == b) = false := by simp; omega
  have e2 : (a != b) = true := by simp; omega
  clear hs1 hs2
  have p0 := (Pair.new w 24 (.bool n1) (.slice A xs.length c)).alloc (.cells #[.bool n2, .slice B ys.length d] 24)
  have q0 := Pair.new (w.alloc (.cells #[.bool n1, .slice A xs.length c] 24)) 24 (.bool n2) (.slice B ys.length d)
  have b0 := ((Below.refl w.heap.size w).alloc (Nat.le_refl _) (.cells #[.bool n1, .slice A xs.length c] 24)).alloc (by simp) (.cells #[.bool n2, .slice B ys.length d] 24)
  have hx := (h.alloc (.cells #[.bool n1, .slice A xs.length c] 24)).alloc (.cells #[.bool n2, .slice B ys.length d] 24)
  have hy := (g.alloc (.cells #[.bool n1, .slice A xs.length c] 24)).alloc (.cells #[.bool n2, .slice B ys.length d] 24)
  simp only [World.size_alloc] at q0
  go_enter Tryz.func165, Tryz.ntmps165
  go_wp2_with fail
  obtain ⟨W, E⟩ : ∃ W, W = (w.alloc (.cells #[.bool n1, .slice A xs.length c] 24)).alloc (.cells #[.bool n2, .slice B ys.length d] 24) := ⟨_, rfl⟩
  rw [← E] at p0 q0 b0 hx hy ⊢
  clear E
  have D1 := fun (V : World) (hV : Below W.heap.size W V) => ref_Sign_any n1 A c xs V (hx.below hV)
  have D2 := fun (V : World) (hV : Below W.heap.size W V) => ref_Sign_any n2 B d ys V (hy.below hV)
  rw [HS1.out] at D1
  rw [HS2.out] at D2
  have H1 := Lib.hid D1
  have H2 := Lib.hid D2
  have HX := Lib.hid hx
  have HY := Lib.hid hy
  obtain ⟨l1, c0, c1, -, -⟩ := p0.facts
  obtain ⟨l2, d0, d1, -, -⟩ := q0.facts
  clear D1 D2 hx hy h g
  refine (H1.out _ (Below.refl _ _)).mono ?_
  rintro e w1 ⟨rfl, q1⟩
  have p1 := p0.below q1
  have q2 := q0.below q1
  clear c0 c1 d0 d1
  obtain ⟨k1, c0, c1, -, -⟩ := p1.facts
  obtain ⟨k2, d0, d1, -, -⟩ := q2.facts
  go_wp2_with fail
  refine (H2.out _ q1).mono ?_
  rintro e w2 ⟨rfl, q3⟩
  have q := belowTo q1 q3
  clear q1 q3 c0 c1 d0 d1 p1 q2 k1 k2
  go_wp2
  go_ret
  exact ⟨rfl, b0.trans (q.mono b0.size)⟩

set_option maxRecDepth 100000 in
set_option maxHeartbeats 1000000 in
theorem ref_Cmp_more (n1 n2 : Bool) (A B : Option Addr) (c d : Nat) (xs ys : List Nat) (a b : Int) (hab : b < a) (hs1 : sgnI n1 xs = a) (hs2 : sgnI n2 ys = b) (w : World) (h : Raw w A c xs) (g : Raw w B d ys) :
    Calls Tryz.prog 165 #[.agg #[.bool n1, .slice A xs.length c], .agg #[.bool n2, .slice B ys.length d]] w fun e w' => e = .returned (.int .i64 1) ∧ Below w.heap.size w w' := by
  have HS1 := Lib.hid hs1
  have HS2 := Lib.hid hs2
  have e1 : (a == b) = false := by simp; omega
  have e2 : (a != b) = true := by simp; omega
  clear hs1 hs2
  have p0 := (Pair.new w 24 (.bool n1) (.slice A xs.length c)).alloc (.cells #[.bool n2, .slice B ys.length d] 24)
  have q0 := Pair.new (w.alloc (.cells #[.bool n1, .slice A xs.length c] 24)) 24 (.bool n2) (.slice B ys.length d)
  have b0 := ((Below.refl w.heap.size w).alloc (Nat.le_refl _) (.cells #[.bool n1, .slice A xs.length c] 24)).alloc (by simp) (.cells #[.bool n2, .slice B ys.length d] 24)
  have hx := (h.alloc (.cells #[.bool n1, .slice A xs.length c] 24)).alloc (.cells #[.bool n2, .slice B ys.length d] 24)
  have hy := (g.alloc (.cells #[.bool n1, .slice A xs.length c] 24)).alloc (.cells #[.bool n2, .slice B ys.length d] 24)
  simp only [World.size_alloc] at q0
  go_enter Tryz.func165, Tryz.ntmps165
  go_wp2_with fail
  obtain ⟨W, E⟩ : ∃ W, W = (w.alloc (.cells #[.bool n1, .slice A xs.length c] 24)).alloc (.cells #[.bool n2, .slice B ys.length d] 24) := ⟨_, rfl⟩
  rw [← E] at p0 q0 b0 hx hy ⊢
  clear E
  have D1 := fun (V : World) (hV : Below W.heap.size W V) => ref_Sign_any n1 A c xs V (hx.below hV)
  have D2 := fun (V : World) (hV : Below W.heap.size W V) => ref_Sign_any n2 B d ys V (hy.below hV)
  rw [HS1.out] at D1
  rw [HS2.out] at D2
  have H1 := Lib.hid D1
  have H2 := Lib.hid D2
  have HX := Lib.hid hx
  have HY := Lib.hid hy
  obtain ⟨l1, c0, c1, -, -⟩ := p0.facts
  obtain ⟨l2, d0, d1, -, -⟩ := q0.facts
  clear D1 D2 hx hy h g
  refine (H1.out _ (Below.refl _ _)).mono ?_
  rintro e w1 ⟨rfl, q1⟩
  have p1 := p0.below q1
  have q2 := q0.below q1
  clear c0 c1 d0 d1
  obtain ⟨k1, c0, c1, -, -⟩ := p1.facts
  obtain ⟨k2, d0, d1, -, -⟩ := q2.facts
  go_wp2_with fail
  refine (H2.out _ q1).mono ?_
  rintro e w2 ⟨rfl, q3⟩
  have q := belowTo q1 q3
  clear q1 q3 c0 c1 d0 d1 p1 q2 k1 k2
  go_wp2
  go_ret
  exact ⟨rfl, b0.trans (q.mono b0.size)⟩

set_option maxRecDepth 100000 in
set_option maxHeartbeats 1000000 in
theorem ref_Cmp_same (n1 n2 : Bool) (A B : Option Addr) (c d : Nat) (xs ys : List Nat) (a : Int) (ha : a = -1 ∧ n1 = true ∨ 0 ≤ a ∧ n1 = false) (hs1 : sgnI n1 xs = a) (hs2 : sgnI n2 ys = a) (hcx : Canon xs) (hcy : Canon ys) (w : World) (h : Raw w A c xs) (g : Raw w B d ys) :
    Calls Tryz.prog 165 #[.agg #[.bool n1, .slice A xs.length c], .agg #[.bool n2, .slice B ys.length d]] w fun e w' => e = .returned (.int .i64 (if n1 then cmpv (val ys) (val xs) else cmpv (val xs) (val ys))) ∧ Below w.heap.size w w' := by
  have HS1 := Lib.hid hs1
  have HS2 := Lib.hid hs2
  have e1 : (a == a) = true := by simp
  have e2 : (a != a) = false := by simp
  have HA := Lib.hid ha
  clear hs1 hs2 ha
  have p0 := (Pair.new w 24 (.bool n1) (.slice A xs.length c)).alloc (.cells #[.bool n2, .slice B ys.length d] 24)
  have q0 := Pair.new (w.alloc (.cells #[.bool n1, .slice A xs.length c] 24)) 24 (.bool n2) (.slice B ys.length d)
  have b0 := ((Below.refl w.heap.size w).alloc (Nat.le_refl _) (.cells #[.bool n1, .slice A xs.length c] 24)).alloc (by simp) (.cells #[.bool n2, .slice B ys.length d] 24)
  have hx := (h.alloc (.cells #[.bool n1, .slice A xs.length c] 24)).alloc (.cells #[.bool n2, .slice B ys.length d] 24)
  have hy := (g.alloc (.cells #[.bool n1, .slice A xs.length c] 24)).alloc (.cells #[.bool n2, .slice B ys.length d] 24)
  simp only [World.size_alloc] at q0
  go_enter Tryz.func165, Tryz.ntmps165
  go_wp2_with fail
  obtain ⟨W, E⟩ : ∃ W, W = (w.alloc (.cells #[.bool n1, .slice A xs.length c] 24)).alloc (.cells #[.bool n2, .slice B ys.length d] 24) := ⟨_, rfl⟩
  rw [← E] at p0 q0 b0 hx hy ⊢
  clear E
  have D1 := fun (V : World) (hV : Below W.heap.size W V) => ref_Sign_any n1 A c xs V (hx.below hV)
  have D2 := fun (V : World) (hV : Below W.heap.size W V) => ref_Sign_any n2 B d ys V (hy.below hV)
  rw [HS1.out] at D1
  rw [HS2.out] at D2
  have H1 := Lib.hid D1
  have H2 := Lib.hid D2
  have HX := Lib.hid hx
  have HY := Lib.hid hy
  obtain ⟨l1, c0, c1, -, -⟩ := p0.facts
  obtain ⟨l2, d0, d1, -, -⟩ := q0.facts
  clear D1 D2 hx hy h g
  refine (H1.out _ (Below.refl _ _)).mono ?_
  rintro e w1 ⟨rfl, q1⟩
  have p1 := p0.below q1
  have q2 := q0.below q1
  clear c0 c1 d0 d1
  obtain ⟨k1, c0, c1, -, -⟩ := p1.facts
  obtain ⟨k2, d0, d1, -, -⟩ := q2.facts
  go_wp2_with fail
  refine (H2.out _ q1).mono ?_
  rintro e w2 ⟨rfl, q3⟩
  have q := belowTo q1 q3
  clear q1 q3 c0 c1 d0 d1 p1 q2 k1 k2
  have hx2 := HX.out.below q
  have hy2 := HY.out.below q
  have p2 := p0.below q
  have q2 := q0.below q
  obtain ⟨k1, c0, c1, -, -⟩ := p2.facts
  obtain ⟨k2, d0, d1, -, -⟩ := q2.facts
  have b2 := b0.trans (q.mono b0.size)
  clear p0 q0 b0 q l1 l2 p2 q2 HX HY H1 H2
  go_wp2_with fail
  refine (ref_cmp_any A B c d xs ys hcx hcy _ hx2 hy2).mono ?_
  rintro e w3 ⟨rfl, hb⟩
  have b3 := belowTo b2 hb
  clear hx2 hy2 c0 c1 d0 d1 hb b2
  rcases HA.out with ⟨rfl, rfl⟩ | ⟨hpos, rfl⟩
  · have fin : wrap64 (-cmpv (val xs) (val ys)) = cmpv (val ys) (val xs) := by
      unfold cmpv wrap64; split <;> (try split) <;> (try split) <;> omega
    have HF := Lib.hid fin
    clear fin HA
    go_wp2
    go_ret
    exact ⟨by show _ = Ending.returned (.int .i64 (cmpv (val ys) (val xs))); rw [← HF.out]; rfl, b3⟩
  · clear HA
    go_wp2
    go_ret
    exact ⟨rfl, b3⟩

/-- What a number is worth. -/
def ival (neg : Bool) (xs : List Nat) : Int := if neg then -(val xs : Int) else val xs
def cmpz (a b : Int) : Int := if a < b then -1 else if b < a then 1 else 0
theorem cmpz_lt {a b : Int} (h : a < b) : cmpz a b = -1 := by simp [cmpz, h]
theorem cmpz_gt {a b : Int} (h : b < a) : cmpz a b = 1 := by
  unfold cmpz; rw [if_neg (by omega), if_pos h]
theorem val_pos {xs : List Nat} (hx : Limbs xs) (hc : Canon xs) (h : xs.length ≠ 0) : 0 < val xs := by
  rcases Nat.eq_zero_or_pos (val xs) with h0 | h0
  · have := natL_val hx hc
    rw [h0, natL_zero] at this
    subst this
    exact absurd rfl h
  · exact h0
theorem sgn_cases {neg : Bool} {xs : List Nat} (hx : Limbs xs) (h : okI neg xs = true) :
    (sgnI neg xs = -1 ∧ ival neg xs < 0 ∧ neg = true) ∨ (sgnI neg xs = 0 ∧ ival neg xs = 0 ∧ neg = false) ∨ (sgnI neg xs = 1 ∧ 0 < ival neg xs ∧ neg = false) := by
  obtain ⟨_, hc, hz⟩ := okI_true.1 h
  by_cases h0 : xs.length = 0
  · obtain rfl := List.eq_nil_of_length_eq_zero h0
    obtain rfl := hz rfl
    exact .inr (.inl ⟨rfl, rfl, rfl⟩)
  · have := val_pos hx hc h0
    cases neg
    · exact .inr (.inr ⟨by simp [sgnI, h0], by simp [ival]; omega, rfl⟩)
    · exact .inl ⟨by simp [sgnI, h0], by simp [ival]; omega, rfl⟩
theorem cmp_same_neg {n1 n2 : Bool} {xs ys : List Nat} (h1 : n1 = true) (h2 : n2 = true) : cmpz (ival n1 xs) (ival n2 ys) = if true then cmpv (val ys) (val xs) else cmpv (val xs) (val ys) := by
  subst h1 h2
  simp only [if_true, ival, cmpz, cmpv]
  split <;> (try split) <;> (try split) <;> (try split) <;> omega
theorem cmp_same_pos {n1 n2 : Bool} {xs ys : List Nat} (h1 : n1 = false) (h2 : n2 = false) : cmpz (ival n1 xs) (ival n2 ys) = if false then cmpv (val ys) (val xs) else cmpv (val xs) (val ys) := by
  subst h1 h2
  simp only [Bool.false_eq_true, if_false, ival, cmpz, cmpv]
  split <;> (try split) <;> (try split) <;> (try split) <;> omega

theorem exact_Cmp_any (n1 n2 : Bool) (A B : Option Addr) (c d : Nat) (xs ys : List Nat) (o1 : okI n1 xs = true) (o2 : okI n2 ys = true) (w : World) (h : Raw w A c xs) (g : Raw w B d ys) :
    Calls Tryz.prog 156 #[.agg #[.bool n1, .slice A xs.length c], .agg #[.bool n2, .slice B ys.length d]] w fun e w' => e = .returned (.int .i64 (cmpz (ival n1 xs) (ival n2 ys))) ∧ Below w.heap.size w w' := by
  obtain ⟨l1, cx, z1⟩ := okI_true.1 o1
  obtain ⟨l2, cy, z2⟩ := okI_true.1 o2
  rcases sgn_cases h.limbs o1 with ⟨s1, v1, b1⟩ | ⟨s1, v1, b1⟩ | ⟨s1, v1, b1⟩ <;> rcases sgn_cases g.limbs o2 with ⟨s2, v2, b2⟩ | ⟨s2, v2, b2⟩ | ⟨s2, v2, b2⟩
  · rw [cmp_same_neg b1 b2]; subst b1 b2; exact exact_Cmp_same true true A B c d xs ys _ (.inl ⟨rfl, rfl⟩) s1 s2 cx cy (by omega) (by omega) w h g
  · rw [cmpz_lt (by omega)]; exact exact_Cmp_less n1 n2 A B c d xs ys _ _ (by omega) s1 s2 w h g
  · rw [cmpz_lt (by omega)]; exact exact_Cmp_less n1 n2 A B c d xs ys _ _ (by omega) s1 s2 w h g
  · rw [cmpz_gt (by omega)]; exact exact_Cmp_more n1 n2 A B c d xs ys _ _ (by omega) s1 s2 w h g
  · rw [cmp_same_pos b1 b2]; subst b1 b2; exact exact_Cmp_same false false A B c d xs ys _ (.inr ⟨by omega, rfl⟩) s1 s2 cx cy (by omega) (by omega) w h g
  · rw [cmpz_lt (by omega)]; exact exact_Cmp_less n1 n2 A B c d xs ys _ _ (by omega) s1 s2 w h g
  · rw [cmpz_gt (by omega)]; exact exact_Cmp_more n1 n2 A B c d xs ys _ _ (by omega) s1 s2 w h g
  · rw [cmpz_gt (by omega)]; exact exact_Cmp_more n1 n2 A B c d xs ys _ _ (by omega) s1 s2 w h g
  · rw [cmp_same_pos b1 b2]; subst b1 b2; exact exact_Cmp_same false false A B c d xs ys _ (.inr ⟨by omega, rfl⟩) s1 s2 cx cy (by omega) (by omega) w h g

theorem ref_Cmp_any (n1 n2 : Bool) (A B : Option Addr) (c d : Nat) (xs ys : List Nat) (o1 : okI n1 xs = true) (o2 : okI n2 ys = true) (w : World) (h : Raw w A c xs) (g : Raw w B d ys) :
    Calls Tryz.prog 165 #[.agg #[.bool n1, .slice A xs.length c], .agg #[.bool n2, .slice B ys.length d]] w fun e w' => e = .returned (.int .i64 (cmpz (ival n1 xs) (ival n2 ys))) ∧ Below w.heap.size w w' := by
  obtain ⟨l1, cx, z1⟩ := okI_true.1 o1
  obtain ⟨l2, cy, z2⟩ := okI_true.1 o2
  rcases sgn_cases h.limbs o1 with ⟨s1, v1, b1⟩ | ⟨s1, v1, b1⟩ | ⟨s1, v1, b1⟩ <;> rcases sgn_cases g.limbs o2 with ⟨s2, v2, b2⟩ | ⟨s2, v2, b2⟩ | ⟨s2, v2, b2⟩
  · rw [cmp_same_neg b1 b2]; subst b1 b2; exact ref_Cmp_same true true A B c d xs ys _ (.inl ⟨rfl, rfl⟩) s1 s2 cx cy w h g
  · rw [cmpz_lt (by omega)]; exact ref_Cmp_less n1 n2 A B c d xs ys _ _ (by omega) s1 s2 w h g
  · rw [cmpz_lt (by omega)]; exact ref_Cmp_less n1 n2 A B c d xs ys _ _ (by omega) s1 s2 w h g
  · rw [cmpz_gt (by omega)]; exact ref_Cmp_more n1 n2 A B c d xs ys _ _ (by omega) s1 s2 w h g
  · rw [cmp_same_pos b1 b2]; subst b1 b2; exact ref_Cmp_same false false A B c d xs ys _ (.inr ⟨by omega, rfl⟩) s1 s2 cx cy w h g
  · rw [cmpz_lt (by omega)]; exact ref_Cmp_less n1 n2 A B c d xs ys _ _ (by omega) s1 s2 w h g
  · rw [cmpz_gt (by omega)]; exact ref_Cmp_more n1 n2 A B c d xs ys _ _ (by omega) s1 s2 w h g
  · rw [cmpz_gt (by omega)]; exact ref_Cmp_more n1 n2 A B c d xs ys _ _ (by omega) s1 s2 w h g
  · rw [cmp_same_pos b1 b2]; subst b1 b2; exact ref_Cmp_same false false A B c d xs ys _ (.inr ⟨by omega, rfl⟩) s1 s2 cx cy w h g
end Go.Proofs.YtadmoheohmbieaaGreatDoor

/- A region that draws its order: 'a, b, c := f(x), g(y), h(z)', the variables in memory: values that do not hang on the order, variables made, values stored in them: ONE goal for all orders. -/
namespace Go.Proofs.YtadmoheohmbieaaGreatDoor
open Go.RowKit

section
variable {P : Program} {ops : Array Oper} {Q : Exit → Act → World → Prop}

def unlisted (n : Nat) (L : Array Bool) : Nat := ((List.range n).filter fun i => !L.getD i false).length
theorem unlisted_zero {n : Nat} {L : Array Bool} (h : unlisted n L = 0) (i : Nat) (hi : i < n) : L.getD i false = true := by
  unfold unlisted at h
  rw [List.length_eq_zero_iff, List.filter_eq_nil_iff] at h
  have := h i (List.mem_range.2 hi)
  simpa using this
theorem filter_less {α : Type} (l : List α) (p q : α → Bool) (hpq : ∀ x ∈ l, q x = true → p x = true) (x : α) (hx : x ∈ l) (hp : p x = true) (hq : q x = false) : (l.filter q).length < (l.filter p).length := by
  induction l with
  | nil => cases hx
  | cons y l ih =>
    have hle : (l.filter q).length ≤ (l.filter p).length := by
      clear ih hx
      induction l with
      | nil => simp
      | cons z l ih2 =>
        have h2 := ih2 (fun a ha hqa => hpq a (by simp at ha ⊢; rcases ha with h | h <;> simp [h]) hqa)
        have hz := hpq z (by simp)
        simp only [List.filter_cons]
        by_cases h1 : q z = true
        · rw [if_pos h1, if_pos (hz h1)]; simpa using h2
        · rw [if_neg h1]; split <;> simp <;> omega
    simp only [List.filter_cons]
    rcases List.mem_cons.1 hx with rfl | hx
    · rw [if_neg (by simp [hq]), if_pos hp]; simp; omega
    · have h2 := ih (fun a ha => hpq a (by simp [ha])) hx
      by_cases h1 : q y = true
      · rw [if_pos h1, if_pos (hpq y (by simp) h1)]; simpa using h2
      · rw [if_neg h1]; split <;> simp <;> omega
theorem unlisted_set {n i : Nat} {L : Array Bool} (hi : i < n) (hs : L.size = n) (h : L.getD i true = false) : unlisted n (L.setIfInBounds i true) < unlisted n L := by
  unfold unlisted
  have hl : i < L.size := by omega
  refine filter_less _ _ _ (fun x _ hx => ?_) i (List.mem_range.2 hi) ?_ ?_
  · simp only [Bool.not_eq_true'] at hx ⊢
    cases hb : L.getD x false with
    | false => rfl
    | true => rw [getD_set_true hb] at hx; cases hx
  · simp [hl] at h ⊢; exact h
  · simp [hl]

/-- Whatever order is picked: what is kept by each operation that may come up, holds at the end. -/
theorem wpAny_inv (I : Array Bool → Act → World → Prop) (hback : (ops.toList.zipIdx.all fun (o, i) => o.after.all fun e => decide (e.on < i)) = true) (hguard : (ops.all fun o => o.guard.isNone) = true)
    (hstep : ∀ L a w, I L a w → ∀ i o, ops[i]? = some o → L.size = ops.size → L.getD i true = false → (∀ e ∈ o.after, Region.binds .any e = true → L.getD e.on false = true) → o.wp P a w (I (L.setIfInBounds i true)) Q)
    (hend : ∀ L a w, I L a w → (∀ i, i < ops.size → L.getD i false = true) → Q .normal a w) :
    ∀ (fuel : Nat) (L : Array Bool) (a : Act) (w : World), L.size = ops.size → unlisted ops.size L ≤ fuel → I L a w → wpAny P .any ops Q fuel L a w := by
  have hall : ∀ L : Array Bool, L.size = ops.size → Region.ready .any ops L = [] → ∀ i, i < ops.size → L.getD i false = true := fun L hs hr i => by
    induction i using Nat.strongRecOn with
    | _ i ih =>
      intro hi
      cases hb : L.getD i false with
      | true => rfl
      | false =>
        exfalso
        have hmem : i ∈ Region.ready .any ops L := by
          rw [mem_ready]
          have hl : i < L.size := by omega
          refine ⟨by simp [hl] at hb ⊢; exact hb, ops[i], Array.getElem?_eq_getElem hi, fun e he _ => ?_⟩
          have h1 := List.all_eq_true.1 hback (ops[i], i) (by
            rw [List.mem_zipIdx_iff_getElem?]; simp [hi])
          simp only [Array.all_eq_true_iff_forall_mem] at h1
          have h2 := of_decide_eq_true (h1 e he)
          exact ih e.on h2 (by omega)
        rw [hr] at hmem; cases hmem
  intro fuel
  induction fuel with
  | zero =>
    intro L a w hs hu hI
    have h0 := unlisted_zero (Nat.le_zero.1 hu)
    refine ⟨?_, hend L a w hI h0⟩
    cases hr : Region.ready .any ops L with
    | nil => rfl
    | cons i rest =>
      have hm : i ∈ Region.ready .any ops L := by rw [hr]; simp
      obtain ⟨h1, o, ho, _⟩ := mem_ready.1 hm
      have hi : i < ops.size := (Array.getElem?_eq_some_iff.1 ho).1
      have h2 := h0 i hi
      have hl : i < L.size := by omega
      simp [hl] at h1 h2
      rw [h1] at h2; cases h2
  | succ fuel ih =>
    intro L a w hs hu hI
    refine ⟨fun hr => hend L a w hI (hall L hs hr), fun i hi => ?_⟩
    obtain ⟨h1, o, ho, hp⟩ := mem_ready.1 hi
    have hlt : i < ops.size := (Array.getElem?_eq_some_iff.1 ho).1
    have hg : o.guard = none := by
      have := Array.all_eq_true_iff_forall_mem.1 hguard o (Array.mem_of_getElem? ho)
      simpa using this
    unfold wpOp
    simp only [ho]
    have hw : Region.wanted o (yielded ops a.tmps) = true := by simp [Region.wanted, hg]
    rw [if_pos hw]
    refine .inl (Oper.wp_mono (fun a' w' h' => ih _ a' w' (by simp [hs]) ?_ h') (hstep L a w hI i o ho hs h1 hp))
    have := unlisted_set hlt hs h1
    omega

/-- Values put into temporaries, one behind the other. -/
def fill (t : Array Value) (l : List (Nat × Value)) : Array Value := l.foldl (fun t p => t.setIfInBounds p.1 p.2) t
theorem fill_size (l : List (Nat × Value)) : ∀ t : Array Value, (fill t l).size = t.size := by
  induction l with
  | nil => intro t; rfl
  | cons p l ih => intro t; show (fill _ l).size = _; rw [ih]; simp
theorem fill_other (l : List (Nat × Value)) (d : Nat) : ∀ t : Array Value, (∀ p ∈ l, p.1 ≠ d) → (fill t l)[d]? = t[d]? := by
  induction l with
  | nil => intro t _; rfl
  | cons p l ih =>
    intro t h
    show (fill _ l)[d]? = _
    rw [ih _ (fun q hq => h q (by simp [hq])), Array.getElem?_setIfInBounds_ne (h p (by simp))]
theorem fill_at (l : List (Nat × Value)) (hd : (l.map (·.1)).Nodup) (d : Nat) (v : Value) : ∀ t : Array Value, d < t.size → (d, v) ∈ l → (fill t l)[d]? = some v := by
  induction l with
  | nil => intro t _ h; cases h
  | cons p l ih =>
    intro t ht h
    simp only [List.map_cons, List.nodup_cons] at hd
    show (fill _ l)[d]? = _
    rcases List.mem_cons.1 h with rfl | h
    · rw [fill_other _ _ _ (fun q hq e => hd.1 (by simp only [List.mem_map]; exact ⟨q, hq, e⟩))]
      simp [ht]
    · exact ih hd.2 _ (by simpa using ht) h
theorem fill_unique (l : List (Nat × Value)) (hd : (l.map (·.1)).Nodup) (t u : Array Value) (hs : u.size = t.size) (ho : ∀ d, (∀ p ∈ l, p.1 ≠ d) → u[d]? = t[d]?) (ha : ∀ p ∈ l, p.1 < t.size → u[p.1]? = some p.2) : u = fill t l := by
  apply Array.ext_getElem?
  intro d
  by_cases h : ∃ p ∈ l, p.1 = d
  · obtain ⟨p, hp, rfl⟩ := h
    by_cases hl : p.1 < t.size
    · rw [ha p hp hl, fill_at l hd p.1 p.2 t hl hp]
    · rw [Array.getElem?_eq_none (by omega), Array.getElem?_eq_none (by rw [fill_size]; omega)]
  · have h' : ∀ p ∈ l, p.1 ≠ d := fun p hp e => h ⟨p, hp, e⟩
    rw [ho d h', fill_other l d t h']

/-- What an operation of such a region is: a value that does not hang on the order; a variable made (its type, its cells); a store of cells into a variable (the numbers of its making and of what is stored). -/
inductive Cls where
  | val (v : Value)
  | new (T : TypeId) (n : Nat)
  | put (ia ic : Nat) (l : Array Value)
  | old (x b : Nat) (T : TypeId) (ic : Nat) (l : Array Value)

def Cls.of (c : Cls) (b : Nat) : Value := match c with
  | .val v => v
  | .new _ _ => .pointer (some ⟨b, 0, none⟩)
  | .put _ _ _ => undef
  | .old _ _ _ _ _ => undef
/-- Temporaries and what is in them, operation by operation. -/
def pairs (ops : Array Oper) (f : Nat → Option Value) : List (Nat × Value) := ops.toList.zipIdx.filterMap fun (o, i) => match o.dst, f i with
  | some d, some v => some (d, v)
  | _, _ => none
def isVal (cls : Nat → Cls) (i : Nat) : Option Value := match cls i with
  | .val v => some v
  | _ => none
def readsOk (ops : Array Oper) (cls : Nat → Cls) : Bool := ops.toList.zipIdx.all fun (o, i) => match cls i with
  | .val _ => (match o.op with | .select _ _ => false | _ => true) && o.dst.isSome && o.op.operands.all fun x => match x with
    | .tmp t => (ops.all fun o' => o'.dst != some t) || o.after.any fun e => Region.binds .any e && ((isVal cls e.on).isSome && ((ops[e.on]?).bind (·.dst) == some t))
    | _ => true
  | _ => true

theorem upon_swap {o : Oper} {a1 a2 : Act} {v : Value} {R : World → Prop} {d : Nat} (hd : o.dst = some d) (hl : d < a1.tmps.size) {r : Result Next}
    (h : o.upon P a1 (fun a' w' => a' = a1.put o.dst v ∧ R w') (fun _ _ _ => False) r) : o.upon P a2 (fun a' w' => a' = a2.put o.dst v ∧ R w') Q r := by
  have key : ∀ u : Value, a1.put o.dst u = a1.put o.dst v → u = v := fun u e => by
    rw [hd] at e
    have := congrArg (fun a : Act => a.tmps[d]?) e
    simpa [Act.put, hl] using this
  cases r with
  | ok n w' =>
    cases n <;> simp only [Oper.upon] at h ⊢
    case value u => obtain ⟨e, hr⟩ := h; rw [key _ e]; exact ⟨rfl, hr⟩
    case skip => obtain ⟨e, hr⟩ := h; rw [key _ e]; exact ⟨rfl, hr⟩
    case defer dd =>
      obtain ⟨e, _⟩ := h
      have := congrArg (fun a : Act => a.defers.length) e
      rw [hd] at this
      simp [Act.put] at this
    case enter f args =>
      refine Calls.mono h fun e w'' he => ?_
      cases e with
      | returned u => obtain ⟨e, hr⟩ := he; rw [key _ e]; exact ⟨rfl, hr⟩
      | panicked c => exact he.elim
      | outgrown => obtain ⟨_, _, hf⟩ := he; exact hf.elim
    case row row args => exact Rows.mono h fun u w'' he => by obtain ⟨e, hr⟩ := he; rw [key _ e]; exact ⟨rfl, hr⟩
  | halt x w' => cases x <;> simp only [Oper.upon] at h ⊢

def setAll (cs : Array Value) : Nat → List Value → Array Value
  | _, [] => cs
  | o, v :: r => setAll (cs.setIfInBounds o v) (o + 1) r
theorem setAll_size : ∀ (l : List Value) (cs : Array Value) (o : Nat), (setAll cs o l).size = cs.size
  | [], _, _ => rfl
  | _ :: r, cs, o => by rw [setAll, setAll_size r]; simp
theorem setAll_before : ∀ (l : List Value) (cs : Array Value) (o j : Nat), j < o → (setAll cs o l)[j]? = cs[j]?
  | [], _, _, _, _ => rfl
  | v :: r, cs, o, j, h => by rw [setAll, setAll_before r _ _ _ (by omega), Array.getElem?_setIfInBounds_ne (by omega)]
theorem setAll_in : ∀ (l : List Value) (cs : Array Value) (o j : Nat), o ≤ j → j < o + l.length → j < cs.size → (setAll cs o l)[j]? = l[j - o]?
  | [], _, o, j, h1, h2, _ => by simp at h2; omega
  | v :: r, cs, o, j, h1, h2, h3 => by
    rw [setAll]
    by_cases e : j = o
    · subst e; rw [setAll_before r _ _ _ (by omega)]; simp [h3]
    · rw [setAll_in r _ _ _ (by omega) (by simp at h2; omega) (by simpa using h3), show j - o = (j - (o + 1)) + 1 by omega, List.getElem?_cons_succ]
theorem setAll_all (l : Array Value) (cs : Array Value) (h : cs.size = l.size) : setAll cs 0 l.toList = l := by
  apply Array.ext_getElem?
  intro j
  by_cases hj : j < l.size
  · rw [setAll_in _ _ _ _ (Nat.zero_le _) (by simpa using hj) (by omega)]; simp
  · rw [Array.getElem?_eq_none (by rw [setAll_size]; omega), Array.getElem?_eq_none (by omega)]
theorem Blk.setCells {b : Nat} {T : TypeId} : ∀ (vs : List Value) (o : Nat) (w : World) (cs : Array Value), Blk w b T cs → Blk (w.setCells b o vs) b T (setAll cs o vs)
  | [], _, _, _, h => h
  | v :: r, o, _, _, h => Blk.setCells r (o + 1) _ _ (h.set_ o v)
theorem Blk.setCells_far {g b : Nat} {T : TypeId} {cs : Array Value} (hn : g ≠ b) : ∀ (vs : List Value) (o : Nat) (w : World), Blk w g T cs → Blk (w.setCells b o vs) g T cs
  | [], _, _, h => h
  | v :: r, o, _, h => Blk.setCells_far hn r (o + 1) _ (h.far (p := ⟨b, o, none⟩) hn v)
theorem below_setCells {W : World} {B b : Nat} (hb : B ≤ b) : ∀ (vs : List Value) (o : Nat) (w : World), Below B W w → Below B W (w.setCells b o vs)
  | [], _, _, h => h
  | v :: r, o, _, h => below_setCells hb r (o + 1) _ (h.setCell (p := ⟨b, o, none⟩) hb v)
theorem Blk.there {w : World} {b : Nat} {T : TypeId} {cs : Array Value} (h : Blk w b T cs) : w.there b 0 cs.size := fun j hj => by
  rw [Nat.zero_add]
  exact ⟨by rw [h.cell]; simp [hj], h.frozen j⟩

def upd (f : Nat → Nat) (i b : Nat) : Nat → Nat := fun j => if j = i then b else f j
theorem upd_same (f : Nat → Nat) (i b : Nat) : upd f i b i = b := by simp [upd]
theorem upd_ne (f : Nat → Nat) {i j : Nat} (b : Nat) (h : j ≠ i) : upd f i b j = f j := by simp [upd, h]

structure TI (ops : Array Oper) (cls : Nat → Cls) (a0 : Act) (B : Nat) (W : World) (z0 : Nat → Array Value) (bs : Nat → Nat) (L : Array Bool) (a : Act) (w : World) : Prop where
  defers : a.defers = a0.defers
  size : a.tmps.size = a0.tmps.size
  out : ∀ t, (∀ (i : Nat) o, ops[i]? = some o → L.getD i false = true → o.dst ≠ some t) → a.tmps[t]? = a0.tmps[t]?
  inn : ∀ (i : Nat) o d, ops[i]? = some o → L.getD i false = true → o.dst = some d → a.tmps[d]? = some ((cls i).of (bs i))
  below : Below B W w
  old : ∀ i x b T ic l, cls i = .old x b T ic l → B ≤ b ∧ b < W.heap.size ∧ ∃ cs, Blk w b T cs ∧ cs.size = l.size ∧ (L.getD i false = true → cs = l) ∧ (L.getD i false = false → cs = z0 i)
  closed : ∀ (i : Nat) o, ops[i]? = some o → L.getD i false = true → ∀ e ∈ o.after, Region.binds .any e = true → L.getD e.on false = true
  new : ∀ i T n, cls i = .new T n → L.getD i false = true → W.heap.size ≤ bs i ∧ ∃ cs, Blk w (bs i) T cs ∧ cs.size = n
  apart : ∀ i j T n T' n', cls i = .new T n → cls j = .new T' n' → L.getD i false = true → L.getD j false = true → i ≠ j → bs i ≠ bs j
  put : ∀ i ia ic l, cls i = .put ia ic l → L.getD i false = true → ∃ T, cls ia = .new T l.size ∧ L.getD ia false = true ∧ Blk w (bs ia) T l

theorem getD_set_iff {L : Array Bool} {i j : Nat} (hi : i < L.size) : (L.setIfInBounds i true).getD j false = true ↔ j = i ∨ L.getD j false = true := by
  by_cases e : i = j
  · subst e; simp [hi]
  · rw [getD_set_ne false e]; exact ⟨.inr, fun h => h.resolve_left (Ne.symm e)⟩

section
variable {cls : Nat → Cls} {a0 : Act} {B : Nat} {W : World} {z0 : Nat → Array Value} {bs : Nat → Nat} {L : Array Bool} {a : Act} {w : World}
/-- The temporaries behind one operation more. -/
theorem TI.tmps {i : Nat} {o : Oper} (h : TI ops cls a0 B W z0 bs L a w) (hi : ops[i]? = some o) (hL : i < L.size) (hun : L.getD i false = false)
    (hdist : ∀ (i j : Nat) oi oj d, ops[i]? = some oi → ops[j]? = some oj → oi.dst = some d → oj.dst = some d → i = j) (hroom : ∀ (i : Nat) o d, ops[i]? = some o → o.dst = some d → d < a0.tmps.size)
    (v : Value) (bs' : Nat → Nat) (hbs : ∀ j, L.getD j false = true → (cls j).of (bs' j) = (cls j).of (bs j)) (hv : ∀ d, o.dst = some d → v = (cls i).of (bs' i)) :
    (a.put o.dst v).defers = a0.defers ∧ (a.put o.dst v).tmps.size = a0.tmps.size ∧
    (∀ t, (∀ (k : Nat) ok, ops[k]? = some ok → (L.setIfInBounds i true).getD k false = true → ok.dst ≠ some t) → (a.put o.dst v).tmps[t]? = a0.tmps[t]?) ∧
    (∀ (k : Nat) ok d, ops[k]? = some ok → (L.setIfInBounds i true).getD k false = true → ok.dst = some d → (a.put o.dst v).tmps[d]? = some ((cls k).of (bs' k))) := by
  refine ⟨?_, ?_, fun t ht => ?_, fun k ok d hk hLk hd => ?_⟩
  · cases hd : o.dst <;> simp [Act.put, h.defers]
  · cases hd : o.dst <;> simp [Act.put, h.size]
  · have h1 := ht i o hi ((getD_set_iff hL).2 (.inl rfl))
    have h2 := h.out t fun k ok hk hLk => ht k ok hk ((getD_set_iff hL).2 (.inr hLk))
    cases hd : o.dst with
    | none => exact h2
    | some d =>
      rw [← h2]
      simp only [Act.put]
      exact Array.getElem?_setIfInBounds_ne (fun e => h1 (by rw [hd, e]))
  · rcases (getD_set_iff hL).1 hLk with rfl | hLk2
    · rw [hi] at hk; injection hk with hk; subst hk
      rw [hd, ← hv d hd]
      have := hroom k o d hi hd
      simp [Act.put, h.size, this]
    · have hne : k ≠ i := fun e => by rw [e, hun] at hLk2; cases hLk2
      rw [hbs k hLk2, ← h.inn k ok d hk hLk2 hd]
      cases hdo : o.dst with
      | none => rfl
      | some d' =>
        simp only [Act.put]
        exact Array.getElem?_setIfInBounds_ne (fun e => hne (hdist k i ok o d hk hi hd (by rw [hdo, e])))

end
theorem pairs_mem {f : Nat → Option Value} {p : Nat × Value} (h : p ∈ pairs ops f) : ∃ (i : Nat) (o : Oper), ops[i]? = some o ∧ o.dst = some p.1 ∧ f i = some p.2 := by
  unfold pairs at h
  rw [List.mem_filterMap] at h
  obtain ⟨⟨o, i⟩, hm, he⟩ := h
  rw [List.mem_zipIdx_iff_getElem?] at hm
  simp only at he hm
  cases hd : o.dst with
  | none => simp [hd] at he
  | some d => cases hf : f i with
    | none => simp [hd, hf] at he
    | some v => simp [hd, hf] at he; subst he; exact ⟨i, o, by simpa using hm, hd, hf⟩
theorem pairs_has {f : Nat → Option Value} {i : Nat} {o : Oper} {d : Nat} {v : Value} (hi : ops[i]? = some o) (hd : o.dst = some d) (hf : f i = some v) : (d, v) ∈ pairs ops f := by
  unfold pairs
  rw [List.mem_filterMap]
  refine ⟨(o, i), ?_, by simp [hd, hf]⟩
  rw [List.mem_zipIdx_iff_getElem?]; simpa using hi
theorem nodup_map_fst {l : List (Oper × Nat)} (f : Nat → Option Value) (h : (l.filterMap fun x => x.1.dst).Nodup) :
    ((l.filterMap fun (o, i) => match o.dst, f i with
      | some d, some v => some (d, v)
      | _, _ => none).map (·.1)).Nodup := by
  induction l with
  | nil => simp
  | cons x l ih =>
    obtain ⟨o, i⟩ := x
    simp only [List.filterMap_cons] at h ⊢
    cases hd : o.dst with
    | none => simp [hd] at h ⊢; simpa using ih h
    | some d =>
      simp only [hd, List.nodup_cons] at h
      cases hf : f i with
      | none => simpa [hd, hf] using ih h.2
      | some v =>
        simp only [List.map_cons, List.nodup_cons]
        refine ⟨fun hm => h.1 ?_, ih h.2⟩
        rw [List.mem_map] at hm
        obtain ⟨⟨d', v'⟩, hm, rfl⟩ := hm
        rw [List.mem_filterMap] at hm ⊢
        obtain ⟨⟨o', i'⟩, hm, he⟩ := hm
        refine ⟨(o', i'), hm, ?_⟩
        cases hd' : o'.dst with
        | none => simp [hd'] at he
        | some d2 => cases hf' : f i' with
          | none => simp [hd', hf'] at he
          | some v2 => simp [hd', hf'] at he; simp [he.1]
theorem zipIdx_dsts : ∀ (l : List Oper) (k : Nat), (l.zipIdx k).filterMap (fun x => x.1.dst) = l.filterMap (·.dst)
  | [], _ => rfl
  | o :: l, k => by simp [List.zipIdx_cons, List.filterMap_cons, zipIdx_dsts l (k + 1)]
theorem pairs_nodup (f : Nat → Option Value) (h : (ops.toList.filterMap (·.dst)).Nodup) : ((pairs ops f).map (·.1)).Nodup :=
  nodup_map_fst f (by rw [zipIdx_dsts]; exact h)
theorem dst_inj (h : (ops.toList.filterMap (·.dst)).Nodup) : ∀ (i j : Nat) oi oj d, ops[i]? = some oi → ops[j]? = some oj → oi.dst = some d → oj.dst = some d → i = j := by
  obtain ⟨l⟩ := ops
  simp only at h
  induction l with
  | nil => intro i j oi oj d hi; simp at hi
  | cons o l ih =>
    intro i j oi oj d hi hj hdi hdj
    have hmem : ∀ (k : Nat) ok, l[k]? = some ok → ok.dst = some d → d ∈ l.filterMap (·.dst) := fun k ok hk hd => by
      rw [List.mem_filterMap]; exact ⟨ok, List.mem_of_getElem? hk, hd⟩
    have hrest : (l.filterMap (·.dst)).Nodup := by
      simp only [List.filterMap_cons] at h
      cases hd : o.dst with
      | none => simpa [hd] using h
      | some d => simp only [hd, List.nodup_cons] at h; exact h.2
    have hhead : o.dst = some d → d ∉ l.filterMap (·.dst) := fun hd => by
      simp only [List.filterMap_cons, hd, List.nodup_cons] at h; exact h.1
    cases i with
    | zero =>
      cases j with
      | zero => rfl
      | succ j =>
        simp at hi hj; subst hi
        exact absurd (hmem j oj hj hdj) (hhead hdi)
    | succ i =>
      cases j with
      | zero =>
        simp at hi hj; subst hj
        exact absurd (hmem i oi hi hdi) (hhead hdj)
      | succ j =>
        simp at hi hj
        exact congrArg Nat.succ (ih hrest i j oi oj d (by simpa using hi) (by simpa using hj) hdi hdj)

/-- THE LAW. -/
theorem wp_region_tuple {id : Nat} {a0 : Act} {w0 : World} (cls : Nat → Cls) (B : Nat) (W : World) (z0 : Nat → Array Value) (hm : P.follows .mixedOrders = true) (hB : B ≤ W.heap.size) (hW : Below B W w0)
    (hback : (ops.toList.zipIdx.all fun (o, i) => o.after.all fun e => decide (e.on < i)) = true) (hguard : (ops.all fun o => o.guard.isNone) = true)
    (hdst : (ops.toList.filterMap (·.dst)).Nodup) (hroom : (ops.toList.filterMap (·.dst)).all (fun d => decide (d < a0.tmps.size)) = true) (hreads : readsOk ops cls = true)
    (hval : ∀ (i : Nat) o v, ops[i]? = some o → cls i = .val v → ∀ w, Below B W w → (∀ (j : Nat) oj x b T ic l, ops[j]? = some oj → cls j = .old x b T ic l → (∃ e ∈ oj.after, Region.binds .any e = true ∧ e.on = i) → Blk w b T (z0 j)) → o.wp P ⟨fill a0.tmps (pairs ops (isVal cls)), a0.defers⟩ w (fun a' w' => a' = Act.put ⟨fill a0.tmps (pairs ops (isVal cls)), a0.defers⟩ o.dst v ∧ Below w.heap.size w w') (fun _ _ _ => False))
    (hnew : ∀ (i : Nat) o T n, ops[i]? = some o → cls i = .new T n → ∃ z : Array Value, z.size = n ∧ ∀ (ρ : Operand → Value) (w : World), (execOp ρ o).run P w = .ok (.value (.pointer (some ⟨w.heap.size, 0, none⟩))) (w.alloc (.cells z T)))
    (hput : ∀ (i : Nat) o ia ic l, ops[i]? = some o → cls i = .put ia ic l → ∃ T x y oa oc, o.op = .store T (.tmp x) (.tmp y) ∧ o.dst = none ∧ ops[ia]? = some oa ∧ oa.dst = some x ∧ ops[ic]? = some oc ∧ oc.dst = some y ∧ cls ia = .new T l.size ∧ cls ic = .val (.agg l) ∧
      (∃ e ∈ o.after, Region.binds .any e = true ∧ e.on = ia) ∧ (∃ e ∈ o.after, Region.binds .any e = true ∧ e.on = ic) ∧ (P.info? T).map (·.size) = some l.size ∧ l.all (·.oneCell') = true)
    (hputs : ∀ i j ia ic l ja jc m, cls i = .put ia ic l → cls j = .put ja jc m → i ≠ j → ia ≠ ja)
    (hold : ∀ (i : Nat) o x b T ic l, ops[i]? = some o → cls i = .old x b T ic l → B ≤ b ∧ b < W.heap.size ∧ Blk w0 b T (z0 i) ∧ (z0 i).size = l.size ∧ ∃ y oc, o.op = .store T (.tmp x) (.tmp y) ∧ o.dst = none ∧ ops[ic]? = some oc ∧ oc.dst = some y ∧ cls ic = .val (.agg l) ∧
      (∀ (k : Nat) ok, ops[k]? = some ok → ok.dst ≠ some x) ∧ a0.tmps[x]? = some (.pointer (some ⟨b, 0, none⟩)) ∧ (∃ e ∈ o.after, Region.binds .any e = true ∧ e.on = ic) ∧ (P.info? T).map (·.size) = some l.size ∧ l.all (·.oneCell') = true)
    (holdin : ∀ i x b T ic l, cls i = .old x b T ic l → i < ops.size)
    (holds : ∀ i j x b T ic l x' b' T' ic' l', cls i = .old x b T ic l → cls j = .old x' b' T' ic' l' → i ≠ j → b ≠ b')
    (hend : ∀ (bs : Nat → Nat) (w : World), Below B W w → (∀ i j T n T' n', i < ops.size → j < ops.size → cls i = .new T n → cls j = .new T' n' → i ≠ j → bs i ≠ bs j) → (∀ i T n, i < ops.size → cls i = .new T n → W.heap.size ≤ bs i) →
      (∀ i ia ic l, i < ops.size → cls i = .put ia ic l → ∃ T, cls ia = .new T l.size ∧ Blk w (bs ia) T l) → (∀ i x b T ic l, i < ops.size → cls i = .old x b T ic l → Blk w b T l) → Q .normal ⟨fill a0.tmps (pairs ops fun i => some ((cls i).of (bs i))), a0.defers⟩ w) :
    (Code.region id ops true).wp P Q a0 w0 := by
  have hdist := dst_inj hdst
  have hroom' : ∀ (i : Nat) o d, ops[i]? = some o → o.dst = some d → d < a0.tmps.size := fun i o d hi hd =>
    of_decide_eq_true (List.all_eq_true.1 hroom d (by rw [List.mem_filterMap]; exact ⟨o, Array.mem_toList_iff.2 (Array.mem_of_getElem? hi), hd⟩))
  refine wp_region_any hm (wpAny_inv (fun L a w => ∃ bs, TI ops cls a0 B W z0 bs L a w) hback hguard ?_ ?_ _ _ _ _ (by simp) ?_ ?_)
  · rintro L a w ⟨bs, h⟩ i o hi hs hun hp
    have hlt : i < ops.size := (Array.getElem?_eq_some_iff.1 hi).1
    have hL : i < L.size := by omega
    have hun' : L.getD i false = false := by simp [hL] at hun ⊢; exact hun
    have hclosed : ∀ (j : Nat) oj, ops[j]? = some oj → (L.setIfInBounds i true).getD j false = true → ∀ e ∈ oj.after, Region.binds .any e = true → (L.setIfInBounds i true).getD e.on false = true := fun j oj hj hLj e he hb => by
      rcases (getD_set_iff hL).1 hLj with rfl | hLj
      · rw [hi] at hj; injection hj with hj; subst hj
        exact (getD_set_iff hL).2 (.inr (hp e he hb))
      · exact (getD_set_iff hL).2 (.inr (h.closed j oj hj hLj e he hb))
    have hkeep : ∀ j, j ≠ i → (L.setIfInBounds i true).getD j false = L.getD j false := fun j hj => getD_set_ne false (Ne.symm hj)
    cases hc : cls i with
    | val v =>
      have hro : o.dst.isSome = true ∧ (∀ cs b, o.op ≠ .select cs b) ∧ ∀ x ∈ o.op.operands, a.eval x = Act.eval ⟨fill a0.tmps (pairs ops (isVal cls)), a0.defers⟩ x := by
        have h1 := List.all_eq_true.1 hreads (o, i) (by rw [List.mem_zipIdx_iff_getElem?]; simpa using hi)
        simp only [hc, Bool.and_eq_true] at h1
        obtain ⟨⟨hsel, hsome⟩, hops⟩ := h1
        refine ⟨hsome, fun cs b e => by rw [e] at hsel; simp at hsel, fun x hx => ?_⟩
        rw [Array.all_eq_true_iff_forall_mem] at hops
        have h2 := hops x hx
        cases x with
        | tmp t =>
          simp only [Bool.or_eq_true] at h2
          rcases h2 with h2 | h2
          · rw [Array.all_eq_true_iff_forall_mem] at h2
            have hno : ∀ (k : Nat) ok, ops[k]? = some ok → ok.dst ≠ some t := fun k ok hk e => by
              have := h2 ok (Array.mem_of_getElem? hk)
              simp [e] at this
            have e1 := h.out t fun k ok hk _ => hno k ok hk
            have e2 := fill_other (pairs ops (isVal cls)) t a0.tmps fun p hp e => by
              obtain ⟨k, ok, hk, hd, _⟩ := pairs_mem hp
              exact hno k ok hk (by rw [hd, e])
            simp [Act.eval, Array.getD_eq_getD_getElem?, e1, e2]
          · rw [← Array.any_toList, List.any_eq_true] at h2
            obtain ⟨e, he, h3⟩ := h2
            rw [Array.mem_toList_iff] at he
            simp only [Bool.and_eq_true, beq_iff_eq] at h3
            obtain ⟨hb, hv, hd⟩ := h3
            obtain ⟨u, hu⟩ := Option.isSome_iff_exists.1 hv
            cases hoe : ops[e.on]? with
            | none => simp [hoe] at hd
            | some oe =>
              simp only [hoe, Option.bind_some] at hd
              have e1 := h.inn e.on oe t hoe (hp e he hb) hd
              have hce : cls e.on = .val u := by
                unfold isVal at hu
                cases hcc : cls e.on <;> simp [hcc] at hu
                rw [hu]
              rw [hce] at e1
              have e2 := fill_at (pairs ops (isVal cls)) (pairs_nodup _ hdst) t u a0.tmps (hroom' _ _ _ hoe hd) (pairs_has hoe hd hu)
              simp only [Cls.of] at e1
              simp [Act.eval, Array.getD_eq_getD_getElem?, e1, e2]
        | _ => rfl
      obtain ⟨hsome, hsel, hev⟩ := hro
      obtain ⟨d, hd⟩ := Option.isSome_iff_exists.1 hsome
      have h1 := hval i o v hi hc w h.below (fun j oj x b T ic l hj hcj hw => by
        obtain ⟨_, _, cs, q3, _, _, q6⟩ := h.old j x b T ic l hcj
        have hf : L.getD j false = false := by
          cases hb : L.getD j false with
          | false => rfl
          | true =>
            obtain ⟨e, he, hbe, rfl⟩ := hw
            have := h.closed j oj hj hb e he hbe
            rw [hun'] at this; cases this
        rw [← q6 hf]; exact q3)
      unfold Oper.wp at h1
      rw [← execOp_congr o hsel hev] at h1
      have h2 := upon_swap (a2 := a) (Q := Q) hd (by simp only [fill_size]; exact hroom' i o d hi hd) h1
      refine Oper.wp_mono ?_ h2
      rintro a' w' ⟨rfl, hb⟩
      obtain ⟨t1, t2, t3, t4⟩ := h.tmps hi hL hun' hdist hroom' v bs (fun _ _ => rfl) (fun _ _ => by rw [hc]; rfl)
      refine ⟨bs, t1, t2, t3, t4, h.below.trans (hb.mono (Nat.le_trans hB h.below.size)), ?_, hclosed, ?_, ?_, ?_⟩
      · intro j x b T ic l hj
        obtain ⟨q1, q2, cs, q3, q4, q5, q6⟩ := h.old j x b T ic l hj
        have hji : j ≠ i := fun e => by rw [e, hc] at hj; cases hj
        refine ⟨q1, q2, cs, q3.below hb q3.lt, q4, fun hLj => q5 ?_, fun hLj => q6 ?_⟩
        · rw [← hkeep j hji]; exact hLj
        · rw [← hkeep j hji]; exact hLj
      · intro j T n hj hLj'
        rcases (getD_set_iff hL).1 hLj' with rfl | hLj
        · rw [hc] at hj; cases hj
        · obtain ⟨q1, cs, q2, q3⟩ := h.new j T n hj hLj
          exact ⟨q1, cs, q2.below hb q2.lt, q3⟩
      · intro j k T n T' n' hj hk hLj' hLk' hne
        rcases (getD_set_iff hL).1 hLj' with rfl | hLj
        · rw [hc] at hj; cases hj
        · rcases (getD_set_iff hL).1 hLk' with rfl | hLk
          · rw [hc] at hk; cases hk
          · exact h.apart j k T n T' n' hj hk hLj hLk hne
      · intro j ia ic l hj hLj'
        rcases (getD_set_iff hL).1 hLj' with rfl | hLj
        · rw [hc] at hj; cases hj
        · obtain ⟨T, q1, q2, q3⟩ := h.put j ia ic l hj hLj
          exact ⟨T, q1, (getD_set_iff hL).2 (.inr q2), q3.below hb q3.lt⟩
    | new T n =>
      obtain ⟨z, hz, hrun⟩ := hnew i o T n hi hc
      unfold Oper.wp
      rw [hrun, Oper.upon_value]
      have hfar : ∀ j T n, cls j = .new T n → L.getD j false = true → bs j < w.heap.size := fun j T n hj hLj => by
        obtain ⟨_, cs, q2, _⟩ := h.new j T n hj hLj
        exact q2.lt
      have hne : ∀ j, L.getD j false = true → j ≠ i := fun j hj e => by rw [e, hun'] at hj; cases hj
      obtain ⟨t1, t2, t3, t4⟩ := h.tmps hi hL hun' hdist hroom' (.pointer (some ⟨w.heap.size, 0, none⟩)) (upd bs i w.heap.size) (fun j hj => by rw [upd_ne _ _ (hne j hj)]) (fun _ _ => by rw [hc, upd_same]; rfl)
      refine ⟨upd bs i w.heap.size, t1, t2, t3, t4, h.below.alloc (Nat.le_trans hB h.below.size) _, ?_, hclosed, ?_, ?_, ?_⟩
      · intro j x b T ic l hj
        obtain ⟨q1, q2, cs, q3, q4, q5, q6⟩ := h.old j x b T ic l hj
        have hji : j ≠ i := fun e => by rw [e, hc] at hj; cases hj
        refine ⟨q1, q2, cs, q3.alloc _, q4, fun hLj => q5 ?_, fun hLj => q6 ?_⟩
        · rw [← hkeep j hji]; exact hLj
        · rw [← hkeep j hji]; exact hLj
      · intro j T' n' hj hLj'
        rcases (getD_set_iff hL).1 hLj' with rfl | hLj
        · rw [hc] at hj; injection hj with e1 e2; subst e1 e2
          rw [upd_same]
          exact ⟨h.below.size, z, Blk.new w _ z, hz⟩
        · rw [upd_ne _ _ (hne j hLj)]
          obtain ⟨q1, cs, q2, q3⟩ := h.new j T' n' hj hLj
          exact ⟨q1, cs, q2.alloc _, q3⟩
      · intro j k T1 n1 T2 n2 hj hk hLj' hLk' hjk
        rcases (getD_set_iff hL).1 hLj' with rfl | hLj
        · rcases (getD_set_iff hL).1 hLk' with rfl | hLk
          · exact absurd rfl hjk
          · rw [upd_same, upd_ne _ _ (hne k hLk)]
            have := hfar k _ _ hk hLk
            omega
        · rcases (getD_set_iff hL).1 hLk' with rfl | hLk
          · rw [upd_same, upd_ne _ _ (hne j hLj)]
            have := hfar j _ _ hj hLj
            omega
          · rw [upd_ne _ _ (hne j hLj), upd_ne _ _ (hne k hLk)]
            exact h.apart j k _ _ _ _ hj hk hLj hLk hjk
      · intro j ia ic l hj hLj'
        rcases (getD_set_iff hL).1 hLj' with rfl | hLj
        · rw [hc] at hj; cases hj
        · obtain ⟨T', q1, q2, q3⟩ := h.put j ia ic l hj hLj
          rw [upd_ne _ _ (hne ia q2)]
          exact ⟨T', q1, (getD_set_iff hL).2 (.inr q2), q3.alloc _⟩
    | put ia ic l =>
      obtain ⟨T, x, y, oa, oc, hop, hdo, hoa, hda, hoc, hdc, hca, hcc, ⟨e1, he1, hb1, rfl⟩, ⟨e2, he2, hb2, rfl⟩, hinfo, hone⟩ := hput i o ia ic l hi hc
      have hLa := hp e1 he1 hb1
      have hLc := hp e2 he2 hb2
      obtain ⟨q1, cs, q2, q3⟩ := h.new _ _ _ hca hLa
      have va := h.inn _ _ _ hoa hLa hda
      have vc := h.inn _ _ _ hoc hLc hdc
      rw [hca] at va
      rw [hcc] at vc
      simp only [Cls.of] at va vc
      have ht := q2.there
      rw [q3] at ht
      refine wp_store_mid T (.tmp x) (.tmp y) hop (bs e1.on) 0 l (by simp [Act.eval, Array.getD_eq_getD_getElem?, va]) (by simp [Act.eval, Array.getD_eq_getD_getElem?, vc]) ht hinfo hone ?_
      obtain ⟨t1, t2, t3, t4⟩ := h.tmps hi hL hun' hdist hroom' undef bs (fun _ _ => rfl) (fun d hd => by rw [hdo] at hd; cases hd)
      refine ⟨bs, t1, t2, t3, t4, below_setCells (Nat.le_trans hB q1) _ _ _ h.below, ?_, hclosed, ?_, ?_, ?_⟩
      · intro j x b T ic l hj
        obtain ⟨r1, r2, cs', r3, r4, r5, r6⟩ := h.old j x b T ic l hj
        have hji : j ≠ i := fun e => by rw [e, hc] at hj; cases hj
        refine ⟨r1, r2, cs', r3.setCells_far (by omega) _ _ _, r4, fun hLj => r5 ?_, fun hLj => r6 ?_⟩
        · rw [← hkeep j hji]; exact hLj
        · rw [← hkeep j hji]; exact hLj
      · intro j T' n' hj hLj'
        rcases (getD_set_iff hL).1 hLj' with rfl | hLj
        · rw [hc] at hj; cases hj
        · obtain ⟨r1, cs', r2, r3⟩ := h.new j T' n' hj hLj
          by_cases e : j = e1.on
          · subst e
            rw [hca] at hj; injection hj with f1 f2; subst f1 f2
            exact ⟨r1, _, r2.setCells _ _ _ _, by rw [setAll_size, r3]⟩
          · exact ⟨r1, cs', r2.setCells_far (h.apart j e1.on _ _ _ _ hj hca hLj hLa e) _ _ _, r3⟩
      · intro j k T1 n1 T2 n2 hj hk hLj' hLk' hjk
        rcases (getD_set_iff hL).1 hLj' with rfl | hLj
        · rw [hc] at hj; cases hj
        · rcases (getD_set_iff hL).1 hLk' with rfl | hLk
          · rw [hc] at hk; cases hk
          · exact h.apart j k _ _ _ _ hj hk hLj hLk hjk
      · intro j ja jc m hj hLj'
        rcases (getD_set_iff hL).1 hLj' with rfl | hLj
        · rw [hc] at hj; injection hj with f1 f2 f3; subst f1 f2 f3
          refine ⟨T, hca, (getD_set_iff hL).2 (.inr hLa), ?_⟩
          have := q2.setCells l.toList 0
          rwa [setAll_all l cs q3] at this
        · obtain ⟨T', r1, r2, r3⟩ := h.put j ja jc m hj hLj
          have hne : e1.on ≠ ja := hputs i j _ _ _ _ _ _ hc hj (fun e => by rw [← e, hun'] at hLj; cases hLj)
          exact ⟨T', r1, (getD_set_iff hL).2 (.inr r2), r3.setCells_far (h.apart ja e1.on _ _ _ _ r1 hca r2 hLa (Ne.symm hne)) _ _ _⟩
    | old x b T ic l =>
      obtain ⟨hb1, hb2, _, _, y, oc, hop, hdo, hoc, hdc, hcc, hxno, hx0, ⟨e2, he2, hbe2, rfl⟩, hinfo, hone⟩ := hold i o x b T ic l hi hc
      have hLc := hp e2 he2 hbe2
      obtain ⟨_, _, cs, q2, q3, _, _⟩ := h.old i x b T _ l hc
      have va := h.out x fun k ok hk _ => hxno k ok hk
      rw [hx0] at va
      have vc := h.inn _ _ _ hoc hLc hdc
      rw [hcc] at vc
      simp only [Cls.of] at vc
      have ht := q2.there
      rw [q3] at ht
      refine wp_store_mid T (.tmp x) (.tmp y) hop b 0 l (by simp [Act.eval, Array.getD_eq_getD_getElem?, va]) (by simp [Act.eval, Array.getD_eq_getD_getElem?, vc]) ht hinfo hone ?_
      obtain ⟨t1, t2, t3, t4⟩ := h.tmps hi hL hun' hdist hroom' undef bs (fun _ _ => rfl) (fun d hd => by rw [hdo] at hd; cases hd)
      refine ⟨bs, t1, t2, t3, t4, below_setCells hb1 _ _ _ h.below, ?_, hclosed, ?_, ?_, ?_⟩
      · intro j x' b' T' ic' l' hj
        obtain ⟨r1, r2, cs', r3, r4, r5, r6⟩ := h.old j x' b' T' ic' l' hj
        by_cases e : i = j
        · subst e
          rw [hc] at hj; injection hj with f1 f2 f3 f4 f5; subst f2 f3 f5
          exact ⟨r1, r2, _, q2.setCells _ _ _ _, by rw [setAll_size, q3], fun _ => setAll_all l cs q3, fun hLj => by rw [(getD_set_iff hL).2 (.inl rfl)] at hLj; cases hLj⟩
        · refine ⟨r1, r2, cs', r3.setCells_far (Ne.symm (holds i j _ _ _ _ _ _ _ _ _ _ hc hj e)) _ _ _, r4, fun hLj => ?_, fun hLj => ?_⟩
          · exact r5 (((getD_set_iff hL).1 hLj).resolve_left (Ne.symm e))
          · rw [hkeep j (Ne.symm e)] at hLj; exact r6 hLj
      · intro j T' n' hj hLj'
        rcases (getD_set_iff hL).1 hLj' with rfl | hLj
        · rw [hc] at hj; cases hj
        · obtain ⟨r1, cs', r2, r3⟩ := h.new j T' n' hj hLj
          exact ⟨r1, cs', r2.setCells_far (by omega) _ _ _, r3⟩
      · intro j k T1 n1 T2 n2 hj hk hLj' hLk' hjk
        rcases (getD_set_iff hL).1 hLj' with rfl | hLj
        · rw [hc] at hj; cases hj
        · rcases (getD_set_iff hL).1 hLk' with rfl | hLk
          · rw [hc] at hk; cases hk
          · exact h.apart j k _ _ _ _ hj hk hLj hLk hjk
      · intro j ja jc m hj hLj'
        rcases (getD_set_iff hL).1 hLj' with rfl | hLj
        · rw [hc] at hj; cases hj
        · obtain ⟨T', r1, r2, r3⟩ := h.put j ja jc m hj hLj
          have r4 := (h.new ja _ _ r1 r2).1
          exact ⟨T', r1, (getD_set_iff hL).2 (.inr r2), r3.setCells_far (by omega) _ _ _⟩
  · rintro L a w ⟨bs, h⟩ hall
    have ea : a = ⟨fill a0.tmps (pairs ops fun i => some ((cls i).of (bs i))), a0.defers⟩ := by
      have h1 := fill_unique (pairs ops fun i => some ((cls i).of (bs i))) (pairs_nodup _ hdst) a0.tmps a.tmps h.size
        (fun d hd => h.out d fun k ok hk _ e => hd _ (pairs_has hk e rfl) rfl)
        (fun p hp _ => by
          obtain ⟨k, ok, hk, hd, hf⟩ := pairs_mem hp
          injection hf with hf
          rw [← hf]
          exact h.inn k ok p.1 hk (hall k (Array.getElem?_eq_some_iff.1 hk).1) hd)
      have h2 := h.defers
      obtain ⟨at', ad⟩ := a
      simp only at h1 h2
      rw [h1, h2]
    rw [ea]
    refine hend bs w h.below (fun i j T n T' n' hi hj hci hcj hne => h.apart i j T n T' n' hci hcj (hall i hi) (hall j hj) hne) (fun i T n hi hci => (h.new i T n hci (hall i hi)).1) (fun i ia ic l hi hci => ?_) (fun i x b T ic l hi hci => ?_)
    · obtain ⟨T, q1, _, q3⟩ := h.put i ia ic l hci (hall i hi)
      exact ⟨T, q1, q3⟩
    · obtain ⟨_, _, cs, q3, _, q5, _⟩ := h.old i x b T ic l hci
      rw [q5 (hall i hi)] at q3
      exact q3
  · have : (List.filter (fun i => !(Array.replicate ops.size false).getD i false) (List.range ops.size)).length ≤ (List.range ops.size).length := List.length_filter_le _ _
    unfold unlisted
    simpa using this
  · refine ⟨fun _ => 0, rfl, rfl, fun _ _ => rfl, ?_, hW.drew, ?_, ?_, ?_, ?_, ?_⟩
    · intro i o d hi hL; simp at hL; rcases Nat.lt_or_ge i ops.size with h | h <;> simp [h] at hL
    · intro i x b T ic l hi
      have hlt := holdin i x b T ic l hi
      obtain ⟨q1, q2, q3, q4, _⟩ := hold i ops[i] x b T ic l (Array.getElem?_eq_getElem hlt) hi
      exact ⟨q1, q2, _, q3.drew, q4, fun hL => by simp [hlt] at hL, fun _ => rfl⟩
    · intro i o _ hL; simp at hL; rcases Nat.lt_or_ge i ops.size with h | h <;> simp [h] at hL
    · intro i T n _ hL; rcases Nat.lt_or_ge i ops.size with h | h <;> simp [h] at hL
    · intro i j T n T' n' _ _ hL; rcases Nat.lt_or_ge i ops.size with h | h <;> simp [h] at hL
    · intro i ia ic l _ hL; rcases Nat.lt_or_ge i ops.size with h | h <;> simp [h] at hL

/-! The same by lists, for a region that is written out. -/
def clsOf (cl : List Cls) (i : Nat) : Cls := (cl[i]?).getD (.put 0 0 #[])
def ValOk (P : Program) (af : Act) (B : Nat) (W : World) (S : World → Prop) : List Oper → List Cls → Prop
  | o :: os, .val v :: cs => (∀ w, Below B W w → S w → o.wp P af w (fun a' w' => a' = af.put o.dst v ∧ Below w.heap.size w w') (fun _ _ _ => False)) ∧ ValOk P af B W S os cs
  | _ :: os, _ :: cs => ValOk P af B W S os cs
  | _, _ => True
def NewOk (P : Program) : List Oper → List Cls → Prop
  | o :: os, .new T n :: cs => (∃ z : Array Value, z.size = n ∧ ∀ (ρ : Operand → Value) (w : World), (execOp ρ o).run P w = .ok (.value (.pointer (some ⟨w.heap.size, 0, none⟩))) (w.alloc (.cells z T))) ∧ NewOk P os cs
  | _ :: os, _ :: cs => NewOk P os cs
  | _, _ => True
def PutOk (P : Program) (ops : Array Oper) (cl : List Cls) : List Oper → List Cls → Prop
  | o :: os, .put ia ic l :: cs => (∃ T x y, o.op = .store T (.tmp x) (.tmp y) ∧ o.dst = none ∧ (ops[ia]?).bind (·.dst) = some x ∧ (ops[ic]?).bind (·.dst) = some y ∧ cl[ia]? = some (.new T l.size) ∧ cl[ic]? = some (.val (.agg l)) ∧
      (o.after.any fun e => Region.binds .any e && e.on == ia) = true ∧ (o.after.any fun e => Region.binds .any e && e.on == ic) = true ∧ (P.info? T).map (·.size) = some l.size ∧ l.all (·.oneCell') = true) ∧ PutOk P ops cl os cs
  | _ :: os, _ :: cs => PutOk P ops cl os cs
  | _, _ => True
def OldOk (P : Program) (ops : Array Oper) (cl : List Cls) (t0 : Array Value) (B : Nat) (W w0 : World) (z : Array Value) : List Oper → List Cls → Prop
  | o :: os, .old x b T ic l :: cs => (B ≤ b ∧ b < W.heap.size ∧ Blk w0 b T z ∧ z.size = l.size ∧ ∃ y, o.op = .store T (.tmp x) (.tmp y) ∧ o.dst = none ∧ (ops[ic]?).bind (·.dst) = some y ∧ cl[ic]? = some (.val (.agg l)) ∧
      (ops.all fun ok => ok.dst != some x) = true ∧ t0[x]? = some (.pointer (some ⟨b, 0, none⟩)) ∧ (o.after.any fun e => Region.binds .any e && e.on == ic) = true ∧ (P.info? T).map (·.size) = some l.size ∧ l.all (·.oneCell') = true) ∧ OldOk P ops cl t0 B W w0 z os cs
  | _ :: os, _ :: cs => OldOk P ops cl t0 B W w0 z os cs
  | _, _ => True
def putsOf : List Cls → List Nat
  | .put ia _ _ :: cs => ia :: putsOf cs
  | _ :: cs => putsOf cs
  | [] => []
def oldsOf : List Cls → Nat
  | .old _ _ _ _ _ :: cs => oldsOf cs + 1
  | _ :: cs => oldsOf cs
  | [] => 0
/-- A store into an elder variable waits for all values. -/
def waitsB (ops : Array Oper) (cl : List Cls) : Bool := (List.range ops.size).all fun j => match clsOf cl j with
  | .old _ _ _ _ _ => (List.range ops.size).all fun i => match clsOf cl i with
    | .val _ => ((ops[j]?).map fun o => o.after.any fun e => Region.binds .any e && e.on == i).getD false
    | _ => true
  | _ => true
def nodupB : List Nat → Bool
  | [] => true
  | x :: l => !l.contains x && nodupB l
theorem nodupB_spec : ∀ {l : List Nat}, nodupB l = true → l.Nodup
  | [], _ => List.nodup_nil
  | x :: l, h => by
    simp only [nodupB, Bool.and_eq_true, Bool.not_eq_true', List.contains_eq_mem, decide_eq_false_iff_not] at h
    exact List.nodup_cons.2 ⟨h.1, nodupB_spec h.2⟩
theorem any_edge {o : Oper} {k : Nat} (h : (o.after.any fun e => Region.binds .any e && e.on == k) = true) : ∃ e ∈ o.after, Region.binds .any e = true ∧ e.on = k := by
  rw [← Array.any_toList, List.any_eq_true] at h
  obtain ⟨e, he, h3⟩ := h
  rw [Array.mem_toList_iff] at he
  simp only [Bool.and_eq_true, beq_iff_eq] at h3
  exact ⟨e, he, h3.1, h3.2⟩
theorem bind_dst {k x : Nat} (h : (ops[k]?).bind (·.dst) = some x) : ∃ o, ops[k]? = some o ∧ o.dst = some x := by
  cases ho : ops[k]? with
  | none => simp [ho] at h
  | some o => simp [ho] at h; exact ⟨o, rfl, h⟩
theorem filterMap_same {α β : Type} {f g : α → Option β} : ∀ (l : List α), (∀ x ∈ l, f x = g x) → l.filterMap f = l.filterMap g
  | [], _ => rfl
  | x :: l, h => by rw [List.filterMap_cons, List.filterMap_cons, h x (by simp), filterMap_same l fun y hy => h y (by simp [hy])]
theorem clsOf_at {cl : List Cls} {i : Nat} {c : Cls} (h : cl[i]? = some c) : clsOf cl i = c := by simp [clsOf, h]
theorem ValOk.get {af : Act} {B : Nat} {W : World} {S : World → Prop} {v : Value} {o : Oper} : ∀ (os : List Oper) (cs : List Cls), ValOk P af B W S os cs → ∀ i : Nat, os[i]? = some o → cs[i]? = some (.val v) → ∀ w, Below B W w → S w → o.wp P af w (fun a' w' => a' = af.put o.dst v ∧ Below w.heap.size w w') (fun _ _ _ => False)
  | [], _, _, i, h1, _ => by simp at h1
  | _ :: _, [], _, i, _, h2 => by simp at h2
  | o' :: os, c :: cs, h, 0, h1, h2 => by
    simp at h1 h2; subst h1 h2
    exact h.1
  | o' :: os, c :: cs, h, i + 1, h1, h2 => by
    have h' : ValOk P af B W S os cs := by cases c <;> first | exact h.2 | exact h
    exact ValOk.get os cs h' i (by simpa using h1) (by simpa using h2)
theorem NewOk.get {T : TypeId} {n : Nat} {o : Oper} : ∀ (os : List Oper) (cs : List Cls), NewOk P os cs → ∀ i : Nat, os[i]? = some o → cs[i]? = some (.new T n) → ∃ z : Array Value, z.size = n ∧ ∀ (ρ : Operand → Value) (w : World), (execOp ρ o).run P w = .ok (.value (.pointer (some ⟨w.heap.size, 0, none⟩))) (w.alloc (.cells z T))
  | [], _, _, i, h1, _ => by simp at h1
  | _ :: _, [], _, i, _, h2 => by simp at h2
  | o' :: os, c :: cs, h, 0, h1, h2 => by
    simp at h1 h2; subst h1 h2
    exact h.1
  | o' :: os, c :: cs, h, i + 1, h1, h2 => by
    have h' : NewOk P os cs := by cases c <;> first | exact h.2 | exact h
    exact NewOk.get os cs h' i (by simpa using h1) (by simpa using h2)
theorem PutOk.get {cl : List Cls} {ia ic : Nat} {l : Array Value} {o : Oper} : ∀ (os : List Oper) (cs : List Cls), PutOk P ops cl os cs → ∀ i : Nat, os[i]? = some o → cs[i]? = some (.put ia ic l) →
    ∃ T x y, o.op = .store T (.tmp x) (.tmp y) ∧ o.dst = none ∧ (ops[ia]?).bind (·.dst) = some x ∧ (ops[ic]?).bind (·.dst) = some y ∧ cl[ia]? = some (.new T l.size) ∧ cl[ic]? = some (.val (.agg l)) ∧
      (o.after.any fun e => Region.binds .any e && e.on == ia) = true ∧ (o.after.any fun e => Region.binds .any e && e.on == ic) = true ∧ (P.info? T).map (·.size) = some l.size ∧ l.all (·.oneCell') = true
  | [], _, _, i, h1, _ => by simp at h1
  | _ :: _, [], _, i, _, h2 => by simp at h2
  | o' :: os, c :: cs, h, 0, h1, h2 => by
    simp at h1 h2; subst h1 h2
    exact h.1
  | o' :: os, c :: cs, h, i + 1, h1, h2 => by
    have h' : PutOk P ops cl os cs := by cases c <;> first | exact h.2 | exact h
    exact PutOk.get os cs h' i (by simpa using h1) (by simpa using h2)
theorem OldOk.get {cl : List Cls} {t0 : Array Value} {B : Nat} {W w0 : World} {z : Array Value} {x b : Nat} {T : TypeId} {ic : Nat} {l : Array Value} {o : Oper} : ∀ (os : List Oper) (cs : List Cls), OldOk P ops cl t0 B W w0 z os cs → ∀ i : Nat, os[i]? = some o → cs[i]? = some (.old x b T ic l) →
    B ≤ b ∧ b < W.heap.size ∧ Blk w0 b T z ∧ z.size = l.size ∧ ∃ y, o.op = .store T (.tmp x) (.tmp y) ∧ o.dst = none ∧ (ops[ic]?).bind (·.dst) = some y ∧ cl[ic]? = some (.val (.agg l)) ∧
      (ops.all fun ok => ok.dst != some x) = true ∧ t0[x]? = some (.pointer (some ⟨b, 0, none⟩)) ∧ (o.after.any fun e => Region.binds .any e && e.on == ic) = true ∧ (P.info? T).map (·.size) = some l.size ∧ l.all (·.oneCell') = true
  | [], _, _, i, h1, _ => by simp at h1
  | _ :: _, [], _, i, _, h2 => by simp at h2
  | o' :: os, c :: cs, h, 0, h1, h2 => by
    simp at h1 h2; subst h1 h2
    exact h.1
  | o' :: os, c :: cs, h, i + 1, h1, h2 => by
    have h' : OldOk P ops cl t0 B W w0 z os cs := by cases c <;> first | exact h.2 | exact h
    exact OldOk.get os cs h' i (by simpa using h1) (by simpa using h2)
theorem puts_inj : ∀ (cl : List Cls), (putsOf cl).Nodup → ∀ (i j : Nat) ia ic l ja jc m, cl[i]? = some (.put ia ic l) → cl[j]? = some (.put ja jc m) → i ≠ j → ia ≠ ja := by
  have hmem : ∀ (cl : List Cls) (k : Nat) ia ic l, cl[k]? = some (.put ia ic l) → ia ∈ putsOf cl := by
    intro cl
    induction cl with
    | nil => intro k ia ic l h; simp at h
    | cons c cl ih =>
      intro k ia ic l h
      cases k with
      | zero => simp at h; subst h; simp [putsOf]
      | succ k =>
        have := ih k ia ic l (by simpa using h)
        cases c <;> simp [putsOf, this]
  intro cl
  induction cl with
  | nil => intro _ i j ia ic l ja jc m h; simp at h
  | cons c cl ih =>
    intro hn i j ia ic l ja jc m hi hj hne
    have hn' : (putsOf cl).Nodup := by
      cases c <;> first | exact hn | exact (List.nodup_cons.1 hn).2
    cases i with
    | zero =>
      cases j with
      | zero => exact absurd rfl hne
      | succ j =>
        simp at hi; subst hi
        have h1 := (List.nodup_cons.1 hn).1
        have h2 := hmem cl j ja jc m (by simpa using hj)
        intro e; subst e; exact h1 h2
    | succ i =>
      cases j with
      | zero =>
        simp at hj; subst hj
        have h1 := (List.nodup_cons.1 hn).1
        have h2 := hmem cl i ia ic l (by simpa using hi)
        intro e; subst e; exact h1 h2
      | succ j => exact ih hn' i j ia ic l ja jc m (by simpa using hi) (by simpa using hj) (by omega)
theorem olds_one : ∀ (cl : List Cls), oldsOf cl ≤ 1 → ∀ (i j : Nat) x b T ic l x' b' T' ic' l', cl[i]? = some (.old x b T ic l) → cl[j]? = some (.old x' b' T' ic' l') → i = j := by
  have hpos : ∀ (cl : List Cls) (k : Nat) x b T ic l, cl[k]? = some (.old x b T ic l) → 0 < oldsOf cl := by
    intro cl
    induction cl with
    | nil => intro k x b T ic l h; simp at h
    | cons c cl ih =>
      intro k x b T ic l h
      cases k with
      | zero => simp at h; subst h; simp [oldsOf]
      | succ k =>
        have := ih k x b T ic l (by simpa using h)
        cases c <;> simp [oldsOf] <;> omega
  intro cl
  induction cl with
  | nil => intro _ i j x b T ic l x' b' T' ic' l' h; simp at h
  | cons c cl ih =>
    intro hn i j x b T ic l x' b' T' ic' l' hi hj
    have hn' : oldsOf cl ≤ 1 := by cases c <;> simp [oldsOf] at hn <;> omega
    cases i with
    | zero =>
      cases j with
      | zero => rfl
      | succ j =>
        simp at hi; subst hi
        have := hpos cl j x' b' T' ic' l' (by simpa using hj)
        simp [oldsOf] at hn; omega
    | succ i =>
      cases j with
      | zero =>
        simp at hj; subst hj
        have := hpos cl i x b T ic l (by simpa using hi)
        simp [oldsOf] at hn; omega
      | succ j => exact congrArg Nat.succ (ih hn' i j x b T ic l x' b' T' ic' l' (by simpa using hi) (by simpa using hj))

/-- THE LAW, by a list of what each operation is. -/
theorem wp_region_list {id : Nat} {a0 : Act} {w0 : World} (cl : List Cls) (B : Nat) (W : World) (z : Array Value) (af : Act) (hm : P.follows .mixedOrders = true) (hB : B ≤ W.heap.size) (hW : Below B W w0) (hlen : cl.length = ops.size)
    (hback : (ops.toList.zipIdx.all fun (o, i) => o.after.all fun e => decide (e.on < i)) = true) (hguard : (ops.all fun o => o.guard.isNone) = true)
    (hdst : nodupB (ops.toList.filterMap (·.dst)) = true) (hroom : (ops.toList.filterMap (·.dst)).all (fun d => decide (d < a0.tmps.size)) = true) (hreads : readsOk ops (clsOf cl) = true)
    (haf : af = ⟨fill a0.tmps (pairs ops (isVal (clsOf cl))), a0.defers⟩)
    (hputs : nodupB (putsOf cl) = true) (holds : decide (oldsOf cl ≤ 1) = true) (hwait : waitsB ops cl = true)
    (hval : ValOk P af B W (fun w => ∀ (j : Nat) x b T ic l, cl[j]? = some (.old x b T ic l) → Blk w b T z) ops.toList cl) (hnew : NewOk P ops.toList cl) (hput : PutOk P ops cl ops.toList cl) (hold : OldOk P ops cl a0.tmps B W w0 z ops.toList cl)
    (hend : ∀ (bs : Nat → Nat) (w : World), Below B W w → (∀ (i j : Nat) T n T' n', cl[i]? = some (.new T n) → cl[j]? = some (.new T' n') → i ≠ j → bs i ≠ bs j) → (∀ (i : Nat) T n, cl[i]? = some (.new T n) → W.heap.size ≤ bs i) →
      (∀ (i : Nat) ia ic l, cl[i]? = some (.put ia ic l) → ∃ T, cl[ia]? = some (.new T l.size) ∧ Blk w (bs ia) T l) → (∀ (i : Nat) x b T ic l, cl[i]? = some (.old x b T ic l) → Blk w b T l) → Q .normal ⟨fill a0.tmps (pairs ops fun i => some ((clsOf cl i).of (bs i))), a0.defers⟩ w) :
    (Code.region id ops true).wp P Q a0 w0 := by
  have hin : ∀ {i : Nat} {c : Cls}, i < cl.length → clsOf cl i = c → cl[i]? = some c := fun {i c} hi h => by
    unfold clsOf at h
    rw [List.getElem?_eq_getElem hi] at h ⊢
    simpa using h
  have hbig : ∀ {i : Nat}, ¬ i < cl.length → clsOf cl i = .put 0 0 #[] := fun {i} hi => by
    unfold clsOf; rw [List.getElem?_eq_none (by omega)]; rfl
  have hnorm : ∀ i : Nat, i < ops.size → i < cl.length := fun i h => by omega
  -- beyond the list nothing is listed: the law is used with a list of classes that says 'a value' there
  let cls : Nat → Cls := fun i => (cl[i]?).getD (.val undef)
  have hcls : ∀ {i : Nat} {c : Cls}, cls i = c → (∃ h : i < cl.length, cl[i]? = some c) ∨ c = .val undef := fun {i c} h => by
    by_cases hi : i < cl.length
    · refine .inl ⟨hi, ?_⟩
      have h' : (cl[i]?).getD (.val undef) = c := h
      rw [List.getElem?_eq_getElem hi] at h' ⊢
      simpa using h'
    · refine .inr ?_
      have h' : (cl[i]?).getD (.val undef) = c := h
      rw [List.getElem?_eq_none (by omega)] at h'
      exact h'.symm
  have hof : ∀ {i : Nat} {c : Cls}, cl[i]? = some c → cls i = c := fun {i c} h => by show (cl[i]?).getD _ = c; rw [h]; rfl
  have hsame : ∀ i, i < ops.size → cls i = clsOf cl i := fun i hi => by
    have := hnorm i hi
    show (cl[i]?).getD _ = (cl[i]?).getD _
    rw [List.getElem?_eq_getElem this]; rfl
  have hvals : pairs ops (isVal cls) = pairs ops (isVal (clsOf cl)) := by
    unfold pairs
    refine filterMap_same _ ?_
    rintro ⟨o, i⟩ hm
    rw [List.mem_zipIdx_iff_getElem?] at hm
    have hi : i < ops.size := (Array.getElem?_eq_some_iff.1 (by simpa using hm)).1
    simp only [isVal, hsame i hi]
  have hread2 : readsOk ops cls = true := by
    unfold readsOk at hreads ⊢
    rw [List.all_eq_true] at hreads ⊢
    rintro ⟨o, i⟩ hm
    have h1 := hreads (o, i) hm
    rw [List.mem_zipIdx_iff_getElem?] at hm
    have hi : i < ops.size := (Array.getElem?_eq_some_iff.1 (by simpa using hm)).1
    have hb := List.all_eq_true.1 hback (o, i) (by rw [List.mem_zipIdx_iff_getElem?]; exact hm)
    simp only [hsame i hi] at h1 ⊢
    cases hc : clsOf cl i with
    | val v =>
      simp only [hc, Bool.and_eq_true, Array.all_eq_true_iff_forall_mem] at h1 ⊢
      refine ⟨h1.1, fun x hx => ?_⟩
      have h2 := h1.2 x hx
      cases x with
      | tmp t =>
        simp only [Bool.or_eq_true] at h2 ⊢
        refine h2.imp (fun h3 => h3) fun h3 => ?_
        rw [← Array.any_toList, List.any_eq_true] at h3 ⊢
        obtain ⟨e, he, h4⟩ := h3
        refine ⟨e, he, ?_⟩
        rw [Array.mem_toList_iff] at he
        rw [Array.all_eq_true_iff_forall_mem] at hb
        have := of_decide_eq_true (hb e he)
        simp only [isVal, hsame e.on (by omega)] at h4 ⊢
        exact h4
      | _ => rfl
    | _ => rfl
  refine wp_region_tuple cls B W (fun _ => z) hm hB hW hback hguard (nodupB_spec hdst) hroom hread2 ?_ ?_ ?_ ?_ ?_ ?_ ?_ ?_
  · intro i o v ho hc w hw hS
    have hi : i < ops.size := (Array.getElem?_eq_some_iff.1 ho).1
    rw [hvals, ← haf]
    have hcv : cl[i]? = some (.val v) := by
      have h' : (cl[i]?).getD (.val undef) = .val v := hc
      rw [List.getElem?_eq_getElem (hnorm i hi)] at h' ⊢
      simpa using h'
    refine ValOk.get ops.toList cl hval i (by simpa using ho) hcv w hw fun j x b T ic l hj => ?_
    have hjl : j < ops.size := by
      have := (List.getElem?_eq_some_iff.1 hj).1
      omega
    refine hS j ops[j] x b T ic l (Array.getElem?_eq_getElem hjl) (hof hj) (any_edge ?_)
    have h1 := List.all_eq_true.1 hwait j (List.mem_range.2 hjl)
    simp only [clsOf_at hj] at h1
    have h2 := List.all_eq_true.1 h1 i (List.mem_range.2 hi)
    simp only [clsOf_at hcv] at h2
    simpa [Array.getElem?_eq_getElem hjl] using h2
  · intro i o T n ho hc
    rcases hcls hc with ⟨_, h⟩ | h
    · exact NewOk.get ops.toList cl hnew i (by simpa using ho) h
    · cases h
  · intro i o ia ic l ho hc
    rcases hcls hc with ⟨_, h⟩ | h
    · obtain ⟨T, x, y, h1, h2, h3, h4, h5, h6, h7, h8, h9, h10⟩ := PutOk.get ops.toList cl hput i (by simpa using ho) h
      obtain ⟨oa, ha1, ha2⟩ := bind_dst h3
      obtain ⟨oc, hc1, hc2⟩ := bind_dst h4
      exact ⟨T, x, y, oa, oc, h1, h2, ha1, ha2, hc1, hc2, hof h5, hof h6, any_edge h7, any_edge h8, h9, h10⟩
    · cases h
  · intro i j ia ic l ja jc m hi hj hne
    rcases hcls hi with ⟨_, h⟩ | h
    · rcases hcls hj with ⟨_, h'⟩ | h'
      · exact puts_inj cl (nodupB_spec hputs) i j ia ic l ja jc m h h' hne
      · cases h'
    · cases h
  · intro i o x b T ic l ho hc
    rcases hcls hc with ⟨_, h⟩ | h
    · obtain ⟨h1, h2, h3, h3', y, h4, h5, h6, h7, h8, h9, h10, h11, h12⟩ := OldOk.get ops.toList cl hold i (by simpa using ho) h
      obtain ⟨oc, hc1, hc2⟩ := bind_dst h6
      refine ⟨h1, h2, h3, h3', y, oc, h4, h5, hc1, hc2, hof h7, fun k ok hk e => ?_, h9, any_edge h10, h11, h12⟩
      rw [Array.all_eq_true_iff_forall_mem] at h8
      have := h8 ok (Array.mem_of_getElem? hk)
      simp [e] at this
    · cases h
  · intro i x b T ic l hc
    rcases hcls hc with ⟨h0, _⟩ | h
    · omega
    · cases h
  · intro i j x b T ic l x' b' T' ic' l' hi hj hne
    rcases hcls hi with ⟨_, h⟩ | h
    · rcases hcls hj with ⟨_, h'⟩ | h'
      · exact absurd (olds_one cl (of_decide_eq_true holds) i j x b T ic l x' b' T' ic' l' h h') hne
      · cases h'
    · cases h
  · intro bs w q1 q2 q3 q4 q5
    have hl : ∀ {i : Nat} {c : Cls}, cl[i]? = some c → i < ops.size := fun h => by
      have := (List.getElem?_eq_some_iff.1 h).1
      omega
    have e : (pairs ops fun i => some ((cls i).of (bs i))) = pairs ops fun i => some ((clsOf cl i).of (bs i)) := by
      unfold pairs
      refine filterMap_same _ ?_
      rintro ⟨o, i⟩ hm
      rw [List.mem_zipIdx_iff_getElem?] at hm
      have hi : i < ops.size := (Array.getElem?_eq_some_iff.1 (by simpa using hm)).1
      simp only [hsame i hi]
    rw [e]
    refine hend bs w q1 (fun i j T n T' n' hi hj hne => q2 i j T n T' n' (hl hi) (hl hj) (hof hi) (hof hj) hne) (fun i T n hi => q3 i T n (hl hi) (hof hi)) (fun i ia ic l hi => ?_) (fun i x b T ic l hi => q5 i x b T ic l (hl hi) (hof hi))
    obtain ⟨T, r1, r2⟩ := q4 i ia ic l (hl hi) (hof hi)
    rcases hcls r1 with ⟨_, h⟩ | h
    · exact ⟨T, h, r2⟩
    · cases h
end
end Go.Proofs.YtadmoheohmbieaaGreatDoor
