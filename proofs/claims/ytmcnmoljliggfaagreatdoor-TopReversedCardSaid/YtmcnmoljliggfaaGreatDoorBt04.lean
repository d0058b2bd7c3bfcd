/- Several texts in one: Same, Beyond, Twin, Cmp, Cmp2. -/
import Derived.Test.YtmcnmoljliggfaaGreatDoorBt03
set_option maxRecDepth 100000
set_option maxHeartbeats 8000000
/- SameInt: the same sign, the same limbs. -/
namespace Go.Proofs.YtmcnmoljliggfaaGreatDoor
open Go.RowKit

theorem take_more_eq {xs ys : List Nat} {k : Nat} (hx : k < xs.length) (hy : k < ys.length) (h : xs.take k = ys.take k) (e : xs[k] = ys[k]) : xs.take (k + 1) = ys.take (k + 1) := by
  rw [List.take_succ_eq_append_getElem hx, List.take_succ_eq_append_getElem hy, h, e]

theorem same_loop (neg : Bool) (A B : Option Addr) (c d : Nat) (xs ys : List Nat) (hlen : xs.length = ys.length) (w : World) (h : Raw w A c xs) (g : Raw w B d ys) :
    Calls Tryz.prog 46 #[.agg #[.bool neg, .slice A xs.length c], .agg #[.bool neg, .slice B ys.length d]] w fun e w' => e = .returned (.bool (decide (xs = ys))) ∧ Below w.heap.size w w' := by
  have HX := Hd h
  have HY := Hd g
  have hm := h.most
  have hc := h.cap
  have HE := Hd hlen
  rw [← hlen]
  clear h g hlen
  go_enter Tryz.func46, Tryz.ntmps46
  go_wp2_with fail
  go_loopw [5] (fun i wr => ∃ k m : Nat, i = .int .i64 k ∧ k ≤ xs.length ∧ xs.take k = ys.take k ∧ wr = ((w.alloc (.cells #[.bool neg, .slice A xs.length c] 25)).alloc (.cells #[.bool neg, .slice B xs.length d] 25)).drewN m) (fun i _ => xs.length - (intOf i).toNat)
  case atStart => exact ⟨0, 0, rfl, Nat.zero_le _, rfl, rfl⟩
  case round =>
    obtain ⟨k, m, rfl, hk, htake, rfl⟩ := hrel
    have HT := Hd htake
    clear htake
    by_cases hlt : k < xs.length
    · have hlt2 : k < ys.length := by rw [← HE.out]; exact hlt
      obtain ⟨ad, rfl, hbl, hcell⟩ := HX.out.reads.get hlt
      obtain ⟨bd, rfl, hbl2, hcell2⟩ := HY.out.reads.get hlt2
      have hbk : (ad.add k).block < w.heap.size := by rw [block_of_add]; exact hbl
      have hbk2 : (bd.add k).block < w.heap.size := by rw [block_of_add]; exact hbl2
      have a0 : (0 : Int) ≤ (k : Int) := by omega
      have a1 : (k : Int) < (xs.length : Int) := by omega
      by_cases he : xs[k] = ys[k]
      · have HQ := Hd he
        rw [← he] at hcell2
        generalize hz : xs[k] = z at hcell hcell2
        clear he hz
        go_wp2_with fail
        go_quiet (fail)
        go_wp2_with fail
        go_roundw
        case rel => exact ⟨k + 1, _, by go_num, hlt, take_more_eq hlt hlt2 HT.out HQ.out, rfl⟩
        case measure => simp [intOf]; omega
      · have hne : ((xs[k] : Int) == (ys[k] : Int)) = false := by simp; omega
        have hne2 : ((xs[k] : Int) != (ys[k] : Int)) = true := by simp; omega
        have hd : decide (xs = ys) = false := by simp; rintro rfl; exact he rfl
        have HD := Hd hd
        clear hd
        have HQ := Hd he
        clear he
        generalize xs[k] = y at *
        generalize ys[k] = z at *
        go_wp2_with fail
        go_quiet (fail)
        go_wp2
        go_ret
        exact ⟨by rw [HD.out]; rfl, by repeat (first | exact Below.refl _ _ | apply below_drewN | refine Below.alloc ?_ (by simp; try omega) _)⟩
    · have hd : decide (xs = ys) = true := by
        have e := HT.out
        rw [List.take_of_length_le (by omega), List.take_of_length_le (by rw [← HE.out]; omega)] at e
        simp [e]
      have HD := Hd hd
      clear hd
      go_wp2
      go_ret
      exact ⟨by rw [HD.out]; rfl, by repeat (first | exact Below.refl _ _ | apply below_drewN | refine Below.alloc ?_ (by simp; try omega) _)⟩

theorem same_sign (n1 n2 : Bool) (hn : n1 ≠ n2) (A B : Option Addr) (c d n m : Nat) (w : World) :
    Calls Tryz.prog 46 #[.agg #[.bool n1, .slice A n c], .agg #[.bool n2, .slice B m d]] w fun e w' => e = .returned (.bool false) ∧ Below w.heap.size w w' := by
  cases n1 <;> cases n2
  · exact absurd rfl hn
  · clear hn
    go_enter Tryz.func46, Tryz.ntmps46
    go_wp2
    go_ret
    exact ⟨rfl, by repeat (first | exact Below.refl _ _ | apply below_drewN | refine Below.alloc ?_ (by simp; try omega) _)⟩
  · clear hn
    go_enter Tryz.func46, Tryz.ntmps46
    go_wp2
    go_ret
    exact ⟨rfl, by repeat (first | exact Below.refl _ _ | apply below_drewN | refine Below.alloc ?_ (by simp; try omega) _)⟩
  · exact absurd rfl hn

theorem same_length (neg : Bool) (A B : Option Addr) (c d n m : Nat) (hn : n ≠ m) (w : World) :
    Calls Tryz.prog 46 #[.agg #[.bool neg, .slice A n c], .agg #[.bool neg, .slice B m d]] w fun e w' => e = .returned (.bool false) ∧ Below w.heap.size w w' := by
  have h1 : ((n : Int) == (m : Int)) = false := by simp; omega
  have h2 : ((n : Int) != (m : Int)) = true := by simp; omega
  clear hn
  go_enter Tryz.func46, Tryz.ntmps46
  go_wp2
  go_ret
  exact ⟨rfl, by repeat (first | exact Below.refl _ _ | apply below_drewN | refine Below.alloc ?_ (by simp; try omega) _)⟩

theorem same_any (n1 n2 : Bool) (A B : Option Addr) (c d : Nat) (xs ys : List Nat) (w : World) (h : Raw w A c xs) (g : Raw w B d ys) :
    Calls Tryz.prog 46 #[.agg #[.bool n1, .slice A xs.length c], .agg #[.bool n2, .slice B ys.length d]] w fun e w' => e = .returned (.bool (decide (n1 = n2 ∧ xs = ys))) ∧ Below w.heap.size w w' := by
  by_cases hn : n1 = n2
  · subst hn
    by_cases hl : xs.length = ys.length
    · have e : decide (n1 = n1 ∧ xs = ys) = decide (xs = ys) := by simp
      rw [e]
      exact same_loop n1 A B c d xs ys hl w h g
    · have e : decide (n1 = n1 ∧ xs = ys) = false := by simp; rintro rfl; exact hl rfl
      rw [e]
      exact same_length n1 A B c d _ _ hl w
  · have e : decide (n1 = n2 ∧ xs = ys) = false := by simp [hn]
    rw [e]
    exact same_sign n1 n2 hn A B c d _ _ w
/- Beyond: whether sizes, taken together, are too much to be copied. -/

def cellsI (zs : List Nat) : List Value := zs.map fun x : Nat => .int .i64 (x : Int)
theorem cellsI_length (zs : List Nat) : (cellsI zs).length = zs.length := by simp [cellsI]
theorem cellsI_get {zs : List Nat} {k : Nat} (h : k < zs.length) : (cellsI zs)[k]? = some (.int .i64 zs[k]) := by simp [cellsI, h]
theorem sum_take_le (zs : List Nat) (k : Nat) : (zs.take k).sum ≤ zs.sum := by
  have h := List.take_append_drop k zs
  have : zs.sum = (zs.take k).sum + (zs.drop k).sum := by rw [← List.sum_append, h]
  omega
theorem sum_take_more (zs : List Nat) (k : Nat) (h : k < zs.length) : (zs.take (k + 1)).sum = (zs.take k).sum + zs[k] := by
  rw [List.take_succ_eq_append_getElem h, List.sum_append]; simp

/- Beyond, IntSize, TwinInt, LeftInt: what the statements copy, and whether a copy is still what it was made of. -/

theorem intSize_any (neg : Bool) (A : Option Addr) (c n : Nat) (hn : n ≤ 1152921504606846975) (w : World) :
    Calls Tryz.prog 90 #[.agg #[.bool neg, .slice A n c]] w fun e w' => e = .returned (.int .i64 ((1 + n : Nat) : Int)) ∧ Below w.heap.size w w' := by
  go_enter Tryz.func90, Tryz.ntmps90
  go_wp2
  go_ret
  exact ⟨by go_num, by repeat (first | exact Below.refl _ _ | refine Below.alloc ?_ (by simp; try omega) _)⟩

structure TwinAt (w : World) (g : Nat) (xs : List Nat) : Prop where
  blk : Blk w g 109 (cellsU (xs ++ [7777])).toArray
/- Numbers held against one another. -/

def cmpv (a b : Nat) : Int := if a < b then -1 else if b < a then 1 else 0
theorem cmpv_lt {a b : Nat} (h : a < b) : cmpv a b = -1 := by simp [cmpv, h]
theorem cmpv_gt {a b : Nat} (h : b < a) : cmpv a b = 1 := by simp [cmpv, h]; omega
theorem cmpv_eq (a : Nat) : cmpv a a = 0 := by simp [cmpv]
theorem val_split {xs : List Nat} {k : Nat} (h : k < xs.length) : val xs = val (xs.take k) + 4294967296 ^ k * (xs[k] + 4294967296 * val (xs.drop (k + 1))) := by
  conv => lhs; rw [← List.take_append_drop k xs, val_append, List.drop_eq_getElem_cons h]
  rw [List.length_take, Nat.min_eq_left (by omega)]
  rfl
theorem val_top {xs ys : List Nat} (hx : Limbs xs) {k : Nat} (h1 : k < xs.length) (h2 : k < ys.length) (hd : xs.drop (k + 1) = ys.drop (k + 1)) (hlt : xs[k] < ys[k]) : val xs < val ys := by
  rw [val_split h1, val_split h2, hd]
  have ht := val_lt (limbs_take hx k)
  rw [List.length_take, Nat.min_eq_left (by omega)] at ht
  have hm : 4294967296 ^ k * (xs[k] + 4294967296 * val (ys.drop (k + 1)) + 1) ≤ 4294967296 ^ k * (ys[k] + 4294967296 * val (ys.drop (k + 1))) := Nat.mul_le_mul_left _ (by omega)
  rw [Nat.mul_add, Nat.mul_one] at hm
  omega
theorem drop_same {xs ys : List Nat} {k : Nat} (h1 : k < xs.length) (h2 : k < ys.length) (hd : xs.drop (k + 1) = ys.drop (k + 1)) (he : xs[k] = ys[k]) : xs.drop k = ys.drop k := by
  rw [List.drop_eq_getElem_cons h1, List.drop_eq_getElem_cons h2, hd, he]
theorem val_short {xs ys : List Nat} (hx : Limbs xs) (hy : Limbs ys) (hc : Canon ys) (hl : xs.length < ys.length) : val xs < val ys := by
  have h1 := val_lt hx
  rcases Nat.lt_or_ge (val ys) (4294967296 ^ (ys.length - 1)) with h | h
  · have := natL_length_le.2 h
    rw [natL_val hy hc] at this
    omega
  · have : 4294967296 ^ xs.length ≤ 4294967296 ^ (ys.length - 1) := Nat.pow_le_pow_right (by omega) (by omega)
    omega

theorem exact_size_same (A B : Option Addr) (c d : Nat) (xs ys : List Nat) (hlen : xs.length = ys.length) (w : World) (h : Raw w A c xs) (g : Raw w B d ys) :
    Calls Tryz.prog 99 #[.slice A xs.length c, .slice B ys.length d] w fun e w' => e = .returned (.int .i64 (cmpv (val xs) (val ys))) ∧ Below w.heap.size w w' := by
  have HX := Hd h
  have HY := Hd g
  have hm := h.most
  have hc := h.cap
  have HE := Hd hlen
  rw [← hlen]
  clear h g hlen
  go_enter Tryz.func99, Tryz.ntmps99
  go_wp2_with fail
  go_loopw [5] (fun i wr => ∃ k m : Nat, i = .int .i64 ((k : Int) - 1) ∧ k ≤ xs.length ∧ xs.drop k = ys.drop k ∧ wr = w.drewN m) (fun i _ => (intOf i + 1).toNat)
  case atStart => exact ⟨xs.length, 0, rfl, Nat.le_refl _, by rw [List.drop_length, HE.out, List.drop_length], rfl⟩
  case round =>
    obtain ⟨k, m, rfl, hk, hdrop, rfl⟩ := hrel
    have HD := Hd hdrop
    clear hdrop
    cases k with
    | zero =>
      have fin : cmpv (val xs) (val ys) = 0 := by
        have e : xs = ys := by simpa using HD.out
        rw [e]; exact cmpv_eq _
      have HF := Hd fin
      clear fin
      go_wp2
      go_ret
      exact ⟨by rw [HF.out]; rfl, below_drewN (Below.refl _ _) _⟩
    | succ k =>
      have h2 : k < ys.length := by rw [← HE.out]; omega
      obtain ⟨ad, rfl, hbl, hcell⟩ := HX.out.reads.get (k := k) (by omega)
      obtain ⟨bd, rfl, hbl2, hcell2⟩ := HY.out.reads.get h2
      have a0 : (0 : Int) ≤ (k : Int) := by omega
      have a1 : (k : Int) < (xs.length : Int) := by omega
      have ae : ((k + 1 : Nat) : Int) - 1 = (k : Int) := by omega
      rw [ae]
      have hcase : xs[k] = ys[k] ∨ xs[k] < ys[k] ∨ ys[k] < xs[k] := by omega
      rcases hcase with he | he | he
      · have HQ := Hd he
        rw [← he] at hcell2
        clear he ae
        generalize hz : xs[k] = z at hcell hcell2
        clear hz
        go_wp2_with fail
        go_quiet (fail)
        go_wp2_with fail
        go_roundw
        case rel => exact ⟨k, _, by go_num, by omega, drop_same (by omega) h2 HD.out HQ.out, rfl⟩
        case measure => simp [intOf]
      · have fin : cmpv (val xs) (val ys) = -1 := cmpv_lt (val_top HX.out.limbs (by omega) h2 HD.out he)
        have HF := Hd fin
        have hlt : (xs[k] : Int) < (ys[k] : Int) := by omega
        have hne : ((xs[k] : Int) == (ys[k] : Int)) = false := by simp; omega
        have hne2 : ((xs[k] : Int) != (ys[k] : Int)) = true := by simp; omega
        clear fin he ae
        generalize xs[k] = y at *
        generalize ys[k] = z at *
        go_wp2_with fail
        go_quiet (fail)
        go_wp2_with fail
        go_quiet (fail)
        go_wp2
        go_ret
        exact ⟨by rw [HF.out]; rfl, by repeat (first | exact Below.refl _ _ | apply below_drewN)⟩
      · have fin : cmpv (val xs) (val ys) = 1 := cmpv_gt (val_top HY.out.limbs h2 (by omega) HD.out.symm he)
        have HF := Hd fin
        have hlt : (ys[k] : Int) < (xs[k] : Int) := by omega
        have hne : ((xs[k] : Int) == (ys[k] : Int)) = false := by simp; omega
        have hne2 : ((xs[k] : Int) != (ys[k] : Int)) = true := by simp; omega
        clear fin he ae
        generalize xs[k] = y at *
        generalize ys[k] = z at *
        go_wp2_with fail
        go_quiet (fail)
        go_wp2_with fail
        go_quiet (fail)
        go_wp2
        go_ret
        exact ⟨by rw [HF.out]; rfl, by repeat (first | exact Below.refl _ _ | apply below_drewN)⟩
theorem exact_size_apart (A B : Option Addr) (c d n m : Nat) (hne : n ≠ m) (hn : n ≤ 4611686018427387904) (hm : m ≤ 4611686018427387904) (w : World) :
    Calls Tryz.prog 99 #[.slice A n c, .slice B m d] w fun e w' => e = .returned (.int .i64 ((n : Int) - (m : Int))) ∧ w = w' := by
  have h1 : ((n : Int) == (m : Int)) = false := by simp; omega
  have h2 : ((n : Int) != (m : Int)) = true := by simp; omega
  clear hne
  go_enter Tryz.func99, Tryz.ntmps99
  go_wp2
  go_ret
  exact ⟨rfl, rfl⟩
def SizeTold (xs ys : List Nat) (w : World) (e : Ending) (w' : World) : Prop :=
  ∃ z : Int, e = .returned (.int .i64 z) ∧ -4611686018427387904 ≤ z ∧ z ≤ 4611686018427387904 ∧ (val xs < val ys → z < 0) ∧ (val xs = val ys → z = 0) ∧ (val ys < val xs → 0 < z) ∧ Below w.heap.size w w'

theorem exact_size_any (A B : Option Addr) (c d : Nat) (xs ys : List Nat) (hcx : Canon xs) (hcy : Canon ys) (hn : xs.length ≤ 4611686018427387904) (hm : ys.length ≤ 4611686018427387904) (w : World) (h : Raw w A c xs) (g : Raw w B d ys) :
    Calls Tryz.prog 99 #[.slice A xs.length c, .slice B ys.length d] w (SizeTold xs ys w) := by
  by_cases hl : xs.length = ys.length
  · refine (exact_size_same A B c d xs ys hl w h g).mono fun e w' ⟨he, hb⟩ => ⟨_, he, ?_, ?_, ?_, ?_, ?_, hb⟩
    · unfold cmpv; split <;> (try split) <;> omega
    · unfold cmpv; split <;> (try split) <;> omega
    · intro h1; rw [cmpv_lt h1]; omega
    · intro h1; rw [h1, cmpv_eq]
    · intro h1; rw [cmpv_gt h1]; omega
  · refine (exact_size_apart A B c d _ _ hl hn hm w).mono fun e w' ⟨he, hw⟩ => ⟨_, he, by omega, by omega, ?_, ?_, ?_, hw ▸ Below.refl _ _⟩
    · intro h1
      rcases Nat.lt_or_ge xs.length ys.length with h2 | h2
      · omega
      · have := val_short g.limbs h.limbs hcx (show ys.length < xs.length by omega); omega
    · intro h1
      rcases Nat.lt_or_ge xs.length ys.length with h2 | h2
      · have := val_short h.limbs g.limbs hcy h2; omega
      · have := val_short g.limbs h.limbs hcx (show ys.length < xs.length by omega); omega
    · intro h1
      rcases Nat.lt_or_ge xs.length ys.length with h2 | h2
      · have := val_short h.limbs g.limbs hcy h2; omega
      · omega

/- Cmp, over numbers that may be. (Written by wip/exact/gencmp.py.) -/

theorem exact_Cmp_less (n1 n2 : Bool) (A B : Option Addr) (c d : Nat) (xs ys : List Nat) (a b : Int) (hab : a < b) (hs1 : sgnI n1 xs = a) (hs2 : sgnI n2 ys = b) (w : World) (h : Raw w A c xs) (g : Raw w B d ys) :
    Calls Tryz.prog 70 #[.agg #[.bool n1, .slice A xs.length c], .agg #[.bool n2, .slice B ys.length d]] w fun e w' => e = .returned (.int .i64 (-1)) ∧ Below w.heap.size w w' := by
  have HS1 := Hd hs1
  have HS2 := Hd hs2
  have e1 : (a == b) = false := by simp; omega
  have e2 : (a != b) = true := by simp; omega
  clear hs1 hs2
  have p0 := (Pair.new w 25 (.bool n1) (.slice A xs.length c)).alloc (.cells #[.bool n2, .slice B ys.length d] 25)
  have q0 := Pair.new (w.alloc (.cells #[.bool n1, .slice A xs.length c] 25)) 25 (.bool n2) (.slice B ys.length d)
  have b0 := ((Below.refl w.heap.size w).alloc (Nat.le_refl _) (.cells #[.bool n1, .slice A xs.length c] 25)).alloc (by simp) (.cells #[.bool n2, .slice B ys.length d] 25)
  have hx := (h.alloc (.cells #[.bool n1, .slice A xs.length c] 25)).alloc (.cells #[.bool n2, .slice B ys.length d] 25)
  have hy := (g.alloc (.cells #[.bool n1, .slice A xs.length c] 25)).alloc (.cells #[.bool n2, .slice B ys.length d] 25)
  simp only [World.size_alloc] at q0
  go_enter Tryz.func70, Tryz.ntmps70
  go_wp2_with fail
  obtain ⟨W, E⟩ : ∃ W, W = (w.alloc (.cells #[.bool n1, .slice A xs.length c] 25)).alloc (.cells #[.bool n2, .slice B ys.length d] 25) := ⟨_, rfl⟩
  rw [← E] at p0 q0 b0 hx hy ⊢
  clear E
  have D1 := fun (V : World) (hV : Below W.heap.size W V) => exact_Sign_any n1 A c xs V (hx.below hV)
  have D2 := fun (V : World) (hV : Below W.heap.size W V) => exact_Sign_any n2 B d ys V (hy.below hV)
  rw [HS1.out] at D1
  rw [HS2.out] at D2
  have H1 := Hd D1
  have H2 := Hd D2
  have HX := Hd hx
  have HY := Hd hy
  obtain ⟨l1, c0, c1, -, -⟩ := p0.facts
  obtain ⟨l2, d0, d1, -, -⟩ := q0.facts
  clear D1 D2 hx hy h g
  go_region_held3 (fun w' => Below W.heap.size W w' ∧ ∀ b o, b < W.heap.size → w'.cell? ⟨b, o, none⟩ = W.cell? ⟨b, o, none⟩)
    (first
      | exact ⟨(Below.refl _ _).drew, fun _ _ _ => rfl⟩
      | (obtain ⟨q, _⟩ := ‹Below W.heap.size W _ ∧ _›; have q' := belowTo q hbx; exact ⟨q', fun b o h => q'.cell (p := ⟨b, o, none⟩) h⟩))
    (first
      | (go_at_call 97; with_reducible refine (H1.out _ ?_).mono ?_; exact (‹Below W.heap.size W _ ∧ _›).1; rintro e wx ⟨rfl, hbx⟩)
      | (go_at_call 97; with_reducible refine (H2.out _ ?_).mono ?_; exact (‹Below W.heap.size W _ ∧ _›).1; rintro e wx ⟨rfl, hbx⟩))
  obtain ⟨q, _⟩ := ‹Below W.heap.size W _ ∧ _›
  obtain ⟨w2, E⟩ : ∃ V, V = wx := ⟨_, rfl⟩
  rw [← E] at q ⊢
  clear E hbx
  clear c0 c1 d0 d1
  go_wp2
  go_ret
  exact ⟨rfl, b0.trans (q.mono b0.size)⟩

theorem exact_Cmp_more (n1 n2 : Bool) (A B : Option Addr) (c d : Nat) (xs ys : List Nat) (a b : Int) (hab : b < a) (hs1 : sgnI n1 xs = a) (hs2 : sgnI n2 ys = b) (w : World) (h : Raw w A c xs) (g : Raw w B d ys) :
    Calls Tryz.prog 70 #[.agg #[.bool n1, .slice A xs.length c], .agg #[.bool n2, .slice B ys.length d]] w fun e w' => e = .returned (.int .i64 1) ∧ Below w.heap.size w w' := by
  have HS1 := Hd hs1
  have HS2 := Hd hs2
  have e1 : (a == b) = false := by simp; omega
  have e2 : (a != b) = true := by simp; omega
  clear hs1 hs2
  have p0 := (Pair.new w 25 (.bool n1) (.slice A xs.length c)).alloc (.cells #[.bool n2, .slice B ys.length d] 25)
  have q0 := Pair.new (w.alloc (.cells #[.bool n1, .slice A xs.length c] 25)) 25 (.bool n2) (.slice B ys.length d)
  have b0 := ((Below.refl w.heap.size w).alloc (Nat.le_refl _) (.cells #[.bool n1, .slice A xs.length c] 25)).alloc (by simp) (.cells #[.bool n2, .slice B ys.length d] 25)
  have hx := (h.alloc (.cells #[.bool n1, .slice A xs.length c] 25)).alloc (.cells #[.bool n2, .slice B ys.length d] 25)
  have hy := (g.alloc (.cells #[.bool n1, .slice A xs.length c] 25)).alloc (.cells #[.bool n2, .slice B ys.length d] 25)
  simp only [World.size_alloc] at q0
  go_enter Tryz.func70, Tryz.ntmps70
  go_wp2_with fail
  obtain ⟨W, E⟩ : ∃ W, W = (w.alloc (.cells #[.bool n1, .slice A xs.length c] 25)).alloc (.cells #[.bool n2, .slice B ys.length d] 25) := ⟨_, rfl⟩
  rw [← E] at p0 q0 b0 hx hy ⊢
  clear E
  have D1 := fun (V : World) (hV : Below W.heap.size W V) => exact_Sign_any n1 A c xs V (hx.below hV)
  have D2 := fun (V : World) (hV : Below W.heap.size W V) => exact_Sign_any n2 B d ys V (hy.below hV)
  rw [HS1.out] at D1
  rw [HS2.out] at D2
  have H1 := Hd D1
  have H2 := Hd D2
  have HX := Hd hx
  have HY := Hd hy
  obtain ⟨l1, c0, c1, -, -⟩ := p0.facts
  obtain ⟨l2, d0, d1, -, -⟩ := q0.facts
  clear D1 D2 hx hy h g
  go_region_held3 (fun w' => Below W.heap.size W w' ∧ ∀ b o, b < W.heap.size → w'.cell? ⟨b, o, none⟩ = W.cell? ⟨b, o, none⟩)
    (first
      | exact ⟨(Below.refl _ _).drew, fun _ _ _ => rfl⟩
      | (obtain ⟨q, _⟩ := ‹Below W.heap.size W _ ∧ _›; have q' := belowTo q hbx; exact ⟨q', fun b o h => q'.cell (p := ⟨b, o, none⟩) h⟩))
    (first
      | (go_at_call 97; with_reducible refine (H1.out _ ?_).mono ?_; exact (‹Below W.heap.size W _ ∧ _›).1; rintro e wx ⟨rfl, hbx⟩)
      | (go_at_call 97; with_reducible refine (H2.out _ ?_).mono ?_; exact (‹Below W.heap.size W _ ∧ _›).1; rintro e wx ⟨rfl, hbx⟩))
  obtain ⟨q, _⟩ := ‹Below W.heap.size W _ ∧ _›
  obtain ⟨w2, E⟩ : ∃ V, V = wx := ⟨_, rfl⟩
  rw [← E] at q ⊢
  clear E hbx
  clear c0 c1 d0 d1
  go_wp2
  go_ret
  exact ⟨rfl, b0.trans (q.mono b0.size)⟩

theorem exact_Cmp_same (n1 n2 : Bool) (A B : Option Addr) (c d : Nat) (xs ys : List Nat) (a : Int) (ha : a = -1 ∧ n1 = true ∨ 0 ≤ a ∧ n1 = false) (hs1 : sgnI n1 xs = a) (hs2 : sgnI n2 ys = a) (hcx : Canon xs) (hcy : Canon ys) (hn : xs.length ≤ 4611686018427387904) (hm : ys.length ≤ 4611686018427387904) (w : World) (h : Raw w A c xs) (g : Raw w B d ys) :
    Calls Tryz.prog 70 #[.agg #[.bool n1, .slice A xs.length c], .agg #[.bool n2, .slice B ys.length d]] w fun e w' => e = .returned (.int .i64 (if n1 then cmpv (val ys) (val xs) else cmpv (val xs) (val ys))) ∧ Below w.heap.size w w' := by
  have HS1 := Hd hs1
  have HS2 := Hd hs2
  have e1 : (a == a) = true := by simp
  have e2 : (a != a) = false := by simp
  have HA := Hd ha
  clear hs1 hs2 ha
  have p0 := (Pair.new w 25 (.bool n1) (.slice A xs.length c)).alloc (.cells #[.bool n2, .slice B ys.length d] 25)
  have q0 := Pair.new (w.alloc (.cells #[.bool n1, .slice A xs.length c] 25)) 25 (.bool n2) (.slice B ys.length d)
  have b0 := ((Below.refl w.heap.size w).alloc (Nat.le_refl _) (.cells #[.bool n1, .slice A xs.length c] 25)).alloc (by simp) (.cells #[.bool n2, .slice B ys.length d] 25)
  have hx := (h.alloc (.cells #[.bool n1, .slice A xs.length c] 25)).alloc (.cells #[.bool n2, .slice B ys.length d] 25)
  have hy := (g.alloc (.cells #[.bool n1, .slice A xs.length c] 25)).alloc (.cells #[.bool n2, .slice B ys.length d] 25)
  simp only [World.size_alloc] at q0
  go_enter Tryz.func70, Tryz.ntmps70
  go_wp2_with fail
  obtain ⟨W, E⟩ : ∃ W, W = (w.alloc (.cells #[.bool n1, .slice A xs.length c] 25)).alloc (.cells #[.bool n2, .slice B ys.length d] 25) := ⟨_, rfl⟩
  rw [← E] at p0 q0 b0 hx hy ⊢
  clear E
  have D1 := fun (V : World) (hV : Below W.heap.size W V) => exact_Sign_any n1 A c xs V (hx.below hV)
  have D2 := fun (V : World) (hV : Below W.heap.size W V) => exact_Sign_any n2 B d ys V (hy.below hV)
  rw [HS1.out] at D1
  rw [HS2.out] at D2
  have H1 := Hd D1
  have H2 := Hd D2
  have HX := Hd hx
  have HY := Hd hy
  obtain ⟨l1, c0, c1, -, -⟩ := p0.facts
  obtain ⟨l2, d0, d1, -, -⟩ := q0.facts
  clear D1 D2 hx hy h g
  go_region_held3 (fun w' => Below W.heap.size W w' ∧ ∀ b o, b < W.heap.size → w'.cell? ⟨b, o, none⟩ = W.cell? ⟨b, o, none⟩)
    (first
      | exact ⟨(Below.refl _ _).drew, fun _ _ _ => rfl⟩
      | (obtain ⟨q, _⟩ := ‹Below W.heap.size W _ ∧ _›; have q' := belowTo q hbx; exact ⟨q', fun b o h => q'.cell (p := ⟨b, o, none⟩) h⟩))
    (first
      | (go_at_call 97; with_reducible refine (H1.out _ ?_).mono ?_; exact (‹Below W.heap.size W _ ∧ _›).1; rintro e wx ⟨rfl, hbx⟩)
      | (go_at_call 97; with_reducible refine (H2.out _ ?_).mono ?_; exact (‹Below W.heap.size W _ ∧ _›).1; rintro e wx ⟨rfl, hbx⟩))
  obtain ⟨q, _⟩ := ‹Below W.heap.size W _ ∧ _›
  obtain ⟨w2, E⟩ : ∃ V, V = wx := ⟨_, rfl⟩
  rw [← E] at q ⊢
  clear E hbx
  clear c0 c1 d0 d1
  have hx2 := HX.out.below q
  have hy2 := HY.out.below q
  have p2 := p0.below q
  have q2 := q0.below q
  obtain ⟨k1, c0, c1, -, -⟩ := p2.facts
  obtain ⟨k2, d0, d1, -, -⟩ := q2.facts
  have b2 := b0.trans (q.mono b0.size)
  clear p0 q0 b0 q l1 l2 p2 q2 HX HY H1 H2
  go_wp2_with fail
  refine (exact_size_any A B c d xs ys hcx hcy hn hm _ hx2 hy2).mono ?_
  rintro e w3 ⟨z, rfl, hz1, hz2, t1, t2, t3, hb⟩
  have b3 := belowTo b2 hb
  have c0' : w3.cell? ⟨w.heap.size, 0, none⟩ = some (.bool n1) := by rw [hb.cell k1]; exact c0
  clear hx2 hy2 c0 c1 d0 d1 hb b2
  have hcase : val xs < val ys ∨ val xs = val ys ∨ val ys < val xs := by omega
  cases n1 <;> rcases hcase with hc | hc | hc
  · have fin : cmpv (val xs) (val ys) = -1 := cmpv_lt hc
    have HF := Hd fin
    have hz := t1 hc
    clear fin t1 t2 t3 hc HA
    have hmx : max (-1) (min 1 z) = -1 := by omega
    have HM := Hd hmx
    clear hmx
    go_wp2
    go_ret
    exact ⟨by show _ = Ending.returned (.int .i64 (cmpv (val xs) (val ys))); rw [HF.out]; show Ending.returned (.int .i64 (max (-1) (min 1 z))) = _; rw [HM.out], b3⟩
  · have fin : cmpv (val xs) (val ys) = 0 := by rw [hc]; exact cmpv_eq _
    have HF := Hd fin
    have hz := t2 hc
    clear fin t1 t2 t3 hc HA
    subst hz
    go_wp2
    go_ret
    exact ⟨by show _ = Ending.returned (.int .i64 (cmpv (val xs) (val ys))); rw [HF.out]; rfl, b3⟩
  · have fin : cmpv (val xs) (val ys) = 1 := cmpv_gt hc
    have HF := Hd fin
    have hz := t3 hc
    clear fin t1 t2 t3 hc HA
    have hmx : max (-1) (min 1 z) = 1 := by omega
    have HM := Hd hmx
    clear hmx
    go_wp2
    go_ret
    exact ⟨by show _ = Ending.returned (.int .i64 (cmpv (val xs) (val ys))); rw [HF.out]; show Ending.returned (.int .i64 (max (-1) (min 1 z))) = _; rw [HM.out], b3⟩
  · have fin : cmpv (val ys) (val xs) = 1 := cmpv_gt hc
    have HF := Hd fin
    have hz := t1 hc
    clear fin t1 t2 t3 hc HA
    have hmx : max (-1) (min 1 (-z)) = 1 := by omega
    have HM := Hd hmx
    clear hmx
    go_wp2
    go_ret
    exact ⟨by show _ = Ending.returned (.int .i64 (cmpv (val ys) (val xs))); rw [HF.out]; show Ending.returned (.int .i64 (max (-1) (min 1 (-z)))) = _; rw [HM.out], b3⟩
  · have fin : cmpv (val ys) (val xs) = 0 := by rw [hc]; exact cmpv_eq _
    have HF := Hd fin
    have hz := t2 hc
    clear fin t1 t2 t3 hc HA
    subst hz
    go_wp2
    go_ret
    exact ⟨by show _ = Ending.returned (.int .i64 (cmpv (val ys) (val xs))); rw [HF.out]; rfl, b3⟩
  · have fin : cmpv (val ys) (val xs) = -1 := cmpv_lt hc
    have HF := Hd fin
    have hz := t3 hc
    clear fin t1 t2 t3 hc HA
    have hmx : max (-1) (min 1 (-z)) = -1 := by omega
    have HM := Hd hmx
    clear hmx
    go_wp2
    go_ret
    exact ⟨by show _ = Ending.returned (.int .i64 (cmpv (val ys) (val xs))); rw [HF.out]; show Ending.returned (.int .i64 (max (-1) (min 1 (-z)))) = _; rw [HM.out], b3⟩

def ival (neg : Bool) (xs : List Nat) : Int := if neg then -(val xs : Int) else val xs
def cmpz (a b : Int) : Int := if a < b then -1 else if b < a then 1 else 0
theorem cmpz_lt {a b : Int} (h : a < b) : cmpz a b = -1 := by simp [cmpz, h]
theorem cmpz_gt {a b : Int} (h : b < a) : cmpz a b = 1 := by
  unfold cmpz; rw [if_neg (by omega), if_pos h]
end Go.Proofs.YtmcnmoljliggfaaGreatDoor
