/- Several texts in one: Cmp, Cmp2, Plus, Twin2. -/
import Derived.Test.YthlehkjcfhnplaaGreatDoorGc07
import Derived.Test.YthlehkjcfhnplaaGreatDoorGcHd
import Derived.Test.YthlehkjcfhnplaaGreatDoorGc06
import Derived.Test.YthlehkjcfhnplaaGreatDoorGc01
set_option maxRecDepth 100000
set_option maxHeartbeats 8000000
/- Numbers held against one another. -/
namespace Go.Proofs.YthlehkjcfhnplaaGreatDoor
open Go.RowKit

def cmpv (a b : Nat) : Int := if a < b then -1 else if b < a then 1 else 0
theorem cmpv_lt {a b : Nat} (h : a < b) : cmpv a b = -1 := by simp [cmpv, h]
theorem cmpv_gt {a b : Nat} (h : b < a) : cmpv a b = 1 := by simp [cmpv, h]; omega
theorem cmpv_eq (a : Nat) : cmpv a a = 0 := by simp [cmpv]
theorem val_split {xs : List Nat} {k : Nat} (h : k < xs.length) : val xs = val (xs.take k) + 4294967296 ^ k * (xs[k] + 4294967296 * val (xs.drop (k + 1))) := by
  conv => lhs; rw [← List.take_append_drop k xs, val_append, List.drop_eq_getElem_cons h]
  rw [List.length_take, Nat.min_eq_left (by omega)]
  rfl
theorem val_top {xs ys : List Nat} (hx : Limbs xs) {k : Nat} (h1 : k < xs.length) (h2 : k < ys.length) (hd : xs.drop (k + 1) = ys.drop (k + 1)) (hlt : xs[k] < ys[k]) : val xs < val ys := by
  rw [val_split h1, val_split h2, hd]
  have ht := val_lt (limbs_take hx k)
  rw [List.length_take, Nat.min_eq_left (by omega)] at ht
  have hm : 4294967296 ^ k * (xs[k] + 4294967296 * val (ys.drop (k + 1)) + 1) ≤ 4294967296 ^ k * (ys[k] + 4294967296 * val (ys.drop (k + 1))) := Nat.mul_le_mul_left _ (by omega)
  rw [Nat.mul_add, Nat.mul_one] at hm
  omega
theorem drop_same {xs ys : List Nat} {k : Nat} (h1 : k < xs.length) (h2 : k < ys.length) (hd : xs.drop (k + 1) = ys.drop (k + 1)) (he : xs[k] = ys[k]) : xs.drop k = ys.drop k := by
  rw [List.drop_eq_getElem_cons h1, List.drop_eq_getElem_cons h2, hd, he]
theorem val_short {xs ys : List Nat} (hx : Limbs xs) (hy : Limbs ys) (hc : Canon ys) (hl : xs.length < ys.length) : val xs < val ys := by
  have h1 := val_lt hx
  rcases Nat.lt_or_ge (val ys) (4294967296 ^ (ys.length - 1)) with h | h
  · have := natL_length_le.2 h
    rw [natL_val hy hc] at this
    omega
  · have : 4294967296 ^ xs.length ≤ 4294967296 ^ (ys.length - 1) := Nat.pow_le_pow_right (by omega) (by omega)
    omega

theorem exact_size_same (A B : Option Addr) (c d : Nat) (xs ys : List Nat) (hlen : xs.length = ys.length) (w : World) (h : Raw w A c xs) (g : Raw w B d ys) :
    Calls Tryz.prog 255 #[.slice A xs.length c, .slice B ys.length d] w fun e w' => e = .returned (.int .i64 (cmpv (val xs) (val ys))) ∧ Below w.heap.size w w' := by
  have HX := Hd h
  have HY := Hd g
  have hm := h.most
  have hc := h.cap
  have HE := Hd hlen
  rw [← hlen]
  clear h g hlen
  go_enter Tryz.func255, Tryz.ntmps255
  go_wp2_with fail
  go_loopw [5] (fun i wr => ∃ k m : Nat, i = .int .i64 ((k : Int) - 1) ∧ k ≤ xs.length ∧ xs.drop k = ys.drop k ∧ wr = w.drewN m) (fun i _ => (intOf i + 1).toNat)
  case atStart => exact ⟨xs.length, 0, rfl, Nat.le_refl _, by rw [List.drop_length, HE.out, List.drop_length], rfl⟩
  case round =>
    obtain ⟨k, m, rfl, hk, hdrop, rfl⟩ := hrel
    have HD := Hd hdrop
    clear hdrop
    cases k with
    | zero =>
      have fin : cmpv (val xs) (val ys) = 0 := by
        have e : xs = ys := by simpa using HD.out
        rw [e]; exact cmpv_eq _
      have HF := Hd fin
      clear fin
      go_wp2
      go_ret
      exact ⟨by rw [HF.out]; rfl, below_drewN (Below.refl _ _) _⟩
    | succ k =>
      have h2 : k < ys.length := by rw [← HE.out]; omega
      obtain ⟨ad, rfl, hbl, hcell⟩ := HX.out.reads.get (k := k) (by omega)
      obtain ⟨bd, rfl, hbl2, hcell2⟩ := HY.out.reads.get h2
      have a0 : (0 : Int) ≤ (k : Int) := by omega
      have a1 : (k : Int) < (xs.length : Int) := by omega
      have ae : ((k + 1 : Nat) : Int) - 1 = (k : Int) := by omega
      rw [ae]
      have hcase : xs[k] = ys[k] ∨ xs[k] < ys[k] ∨ ys[k] < xs[k] := by omega
      rcases hcase with he | he | he
      · have HQ := Hd he
        rw [← he] at hcell2
        clear he ae
        generalize hz : xs[k] = z at hcell hcell2
        clear hz
        go_wp2_with fail
        go_quiet (fail)
        go_wp2_with fail
        go_roundw
        case rel => exact ⟨k, _, by go_num, by omega, drop_same (by omega) h2 HD.out HQ.out, rfl⟩
        case measure => simp [intOf]
      · have fin : cmpv (val xs) (val ys) = -1 := cmpv_lt (val_top HX.out.limbs (by omega) h2 HD.out he)
        have HF := Hd fin
        have hlt : (xs[k] : Int) < (ys[k] : Int) := by omega
        have hne : ((xs[k] : Int) == (ys[k] : Int)) = false := by simp; omega
        have hne2 : ((xs[k] : Int) != (ys[k] : Int)) = true := by simp; omega
        clear fin he ae
        generalize xs[k] = y at *
        generalize ys[k] = z at *
        go_wp2_with fail
        go_quiet (fail)
        go_wp2_with fail
        go_quiet (fail)
        go_wp2
        go_ret
        exact ⟨by rw [HF.out]; rfl, by repeat (first | exact Below.refl _ _ | apply below_drewN)⟩
      · have fin : cmpv (val xs) (val ys) = 1 := cmpv_gt (val_top HY.out.limbs h2 (by omega) HD.out.symm he)
        have HF := Hd fin
        have hlt : (ys[k] : Int) < (xs[k] : Int) := by omega
        have hne : ((xs[k] : Int) == (ys[k] : Int)) = false := by simp; omega
        have hne2 : ((xs[k] : Int) != (ys[k] : Int)) = true := by simp; omega
        clear fin he ae
        generalize xs[k] = y at *
        generalize ys[k] = z at *
        go_wp2_with fail
        go_quiet (fail)
        go_wp2_with fail
        go_quiet (fail)
        go_wp2
        go_ret
        exact ⟨by rw [HF.out]; rfl, by repeat (first | exact Below.refl _ _ | apply below_drewN)⟩
theorem exact_size_apart (A B : Option Addr) (c d n m : Nat) (hne : n ≠ m) (hn : n ≤ 4611686018427387904) (hm : m ≤ 4611686018427387904) (w : World) :
    Calls Tryz.prog 255 #[.slice A n c, .slice B m d] w fun e w' => e = .returned (.int .i64 ((n : Int) - (m : Int))) ∧ w = w' := by
  have h1 : ((n : Int) == (m : Int)) = false := by simp; omega
  have h2 : ((n : Int) != (m : Int)) = true := by simp; omega
  clear hne
  go_enter Tryz.func255, Tryz.ntmps255
  go_wp2
  go_ret
  exact ⟨rfl, rfl⟩
def SizeTold (xs ys : List Nat) (w : World) (e : Ending) (w' : World) : Prop :=
  ∃ z : Int, e = .returned (.int .i64 z) ∧ -4611686018427387904 ≤ z ∧ z ≤ 4611686018427387904 ∧ (val xs < val ys → z < 0) ∧ (val xs = val ys → z = 0) ∧ (val ys < val xs → 0 < z) ∧ Below w.heap.size w w'

theorem exact_size_any (A B : Option Addr) (c d : Nat) (xs ys : List Nat) (hcx : Canon xs) (hcy : Canon ys) (hn : xs.length ≤ 4611686018427387904) (hm : ys.length ≤ 4611686018427387904) (w : World) (h : Raw w A c xs) (g : Raw w B d ys) :
    Calls Tryz.prog 255 #[.slice A xs.length c, .slice B ys.length d] w (SizeTold xs ys w) := by
  by_cases hl : xs.length = ys.length
  · refine (exact_size_same A B c d xs ys hl w h g).mono fun e w' ⟨he, hb⟩ => ⟨_, he, ?_, ?_, ?_, ?_, ?_, hb⟩
    · unfold cmpv; split <;> (try split) <;> omega
    · unfold cmpv; split <;> (try split) <;> omega
    · intro h1; rw [cmpv_lt h1]; omega
    · intro h1; rw [h1, cmpv_eq]
    · intro h1; rw [cmpv_gt h1]; omega
  · refine (exact_size_apart A B c d _ _ hl hn hm w).mono fun e w' ⟨he, hw⟩ => ⟨_, he, by omega, by omega, ?_, ?_, ?_, hw ▸ Below.refl _ _⟩
    · intro h1
      rcases Nat.lt_or_ge xs.length ys.length with h2 | h2
      · omega
      · have := val_short g.limbs h.limbs hcx (show ys.length < xs.length by omega); omega
    · intro h1
      rcases Nat.lt_or_ge xs.length ys.length with h2 | h2
      · have := val_short h.limbs g.limbs hcy h2; omega
      · have := val_short g.limbs h.limbs hcx (show ys.length < xs.length by omega); omega
    · intro h1
      rcases Nat.lt_or_ge xs.length ys.length with h2 | h2
      · have := val_short h.limbs g.limbs hcy h2; omega
      · omega

/- Cmp, over numbers that may be. (Written by wip/exact/gencmp.py.) -/

theorem exact_Cmp_less (n1 n2 : Bool) (A B : Option Addr) (c d : Nat) (xs ys : List Nat) (a b : Int) (hab : a < b) (hs1 : sgnI n1 xs = a) (hs2 : sgnI n2 ys = b) (w : World) (h : Raw w A c xs) (g : Raw w B d ys) :
    Calls Tryz.prog 216 #[.agg #[.bool n1, .slice A xs.length c], .agg #[.bool n2, .slice B ys.length d]] w fun e w' => e = .returned (.int .i64 (-1)) ∧ Below w.heap.size w w' := by
  have HS1 := Hd hs1
  have HS2 := Hd hs2
  have e1 : (a == b) = false := by simp; omega
  have e2 : (a != b) = true := by simp; omega
  clear hs1 hs2
  have p0 := (Pair.new w 24 (.bool n1) (.slice A xs.length c)).alloc (.cells #[.bool n2, .slice B ys.length d] 24)
  have q0 := Pair.new (w.alloc (.cells #[.bool n1, .slice A xs.length c] 24)) 24 (.bool n2) (.slice B ys.length d)
  have b0 := ((Below.refl w.heap.size w).alloc (Nat.le_refl _) (.cells #[.bool n1, .slice A xs.length c] 24)).alloc (by simp) (.cells #[.bool n2, .slice B ys.length d] 24)
  have hx := (h.alloc (.cells #[.bool n1, .slice A xs.length c] 24)).alloc (.cells #[.bool n2, .slice B ys.length d] 24)
  have hy := (g.alloc (.cells #[.bool n1, .slice A xs.length c] 24)).alloc (.cells #[.bool n2, .slice B ys.length d] 24)
  simp only [World.size_alloc] at q0
  go_enter Tryz.func216, Tryz.ntmps216
  go_wp2_with fail
  obtain ⟨W, E⟩ : ∃ W, W = (w.alloc (.cells #[.bool n1, .slice A xs.length c] 24)).alloc (.cells #[.bool n2, .slice B ys.length d] 24) := ⟨_, rfl⟩
  rw [← E] at p0 q0 b0 hx hy ⊢
  clear E
  have D1 := fun (V : World) (hV : Below W.heap.size W V) => exact_Sign_any n1 A c xs V (hx.below hV)
  have D2 := fun (V : World) (hV : Below W.heap.size W V) => exact_Sign_any n2 B d ys V (hy.below hV)
  rw [HS1.out] at D1
  rw [HS2.out] at D2
  have H1 := Hd D1
  have H2 := Hd D2
  have HX := Hd hx
  have HY := Hd hy
  obtain ⟨l1, c0, c1, -, -⟩ := p0.facts
  obtain ⟨l2, d0, d1, -, -⟩ := q0.facts
  clear D1 D2 hx hy h g
  go_region_held3 (fun w' => Below W.heap.size W w' ∧ ∀ b o, b < W.heap.size → w'.cell? ⟨b, o, none⟩ = W.cell? ⟨b, o, none⟩)
    (first
      | exact ⟨(Below.refl _ _).drew, fun _ _ _ => rfl⟩
      | (obtain ⟨q, _⟩ := ‹Below W.heap.size W _ ∧ _›; have q' := belowTo q hbx; exact ⟨q', fun b o h => q'.cell (p := ⟨b, o, none⟩) h⟩))
    (first
      | (go_at_call 214; with_reducible refine (H1.out _ ?_).mono ?_; exact (‹Below W.heap.size W _ ∧ _›).1; rintro e wx ⟨rfl, hbx⟩)
      | (go_at_call 214; with_reducible refine (H2.out _ ?_).mono ?_; exact (‹Below W.heap.size W _ ∧ _›).1; rintro e wx ⟨rfl, hbx⟩))
  obtain ⟨q, _⟩ := ‹Below W.heap.size W _ ∧ _›
  obtain ⟨w2, E⟩ : ∃ V, V = wx := ⟨_, rfl⟩
  rw [← E] at q ⊢
  clear E hbx
  clear c0 c1 d0 d1
  go_wp2
  go_ret
  exact ⟨rfl, b0.trans (q.mono b0.size)⟩

theorem exact_Cmp_more (n1 n2 : Bool) (A B : Option Addr) (c d : Nat) (xs ys : List Nat) (a b : Int) (hab : b < a) (hs1 : sgnI n1 xs = a) (hs2 : sgnI n2 ys = b) (w : World) (h : Raw w A c xs) (g : Raw w B d ys) :
    Calls Tryz.prog 216 #[.agg #[.bool n1, .slice A xs.length c], .agg #[.bool n2, .slice B ys.length d]] w fun e w' => e = .returned (.int .i64 1) ∧ Below w.heap.size w w' := by
  have HS1 := Hd hs1
  have HS2 := Hd hs2
  have e1 : (a == b) = false := by simp; omega
  have e2 : (a != b) = true := by simp; omega
  clear hs1 hs2
  have p0 := (Pair.new w 24 (.bool n1) (.slice A xs.length c)).alloc (.cells #[.bool n2, .slice B ys.length d] 24)
  have q0 := Pair.new (w.alloc (.cells #[.bool n1, .slice A xs.length c] 24)) 24 (.bool n2) (.slice B ys.length d)
  have b0 := ((Below.refl w.heap.size w).alloc (Nat.le_refl _) (.cells #[.bool n1, .slice A xs.length c] 24)).alloc (by simp) (.cells #[.bool n2, .slice B ys.length d] 24)
  have hx := (h.alloc (.cells #[.bool n1, .slice A xs.length c] 24)).alloc (.cells #[.bool n2, .slice B ys.length d] 24)
  have hy := (g.alloc (.cells #[.bool n1, .slice A xs.length c] 24)).alloc (.cells #[.bool n2, .slice B ys.length d] 24)
  simp only [World.size_alloc] at q0
  go_enter Tryz.func216, Tryz.ntmps216
  go_wp2_with fail
  obtain ⟨W, E⟩ : ∃ W, W = (w.alloc (.cells #[.bool n1, .slice A xs.length c] 24)).alloc (.cells #[.bool n2, .slice B ys.length d] 24) := ⟨_, rfl⟩
  rw [← E] at p0 q0 b0 hx hy ⊢
  clear E
  have D1 := fun (V : World) (hV : Below W.heap.size W V) => exact_Sign_any n1 A c xs V (hx.below hV)
  have D2 := fun (V : World) (hV : Below W.heap.size W V) => exact_Sign_any n2 B d ys V (hy.below hV)
  rw [HS1.out] at D1
  rw [HS2.out] at D2
  have H1 := Hd D1
  have H2 := Hd D2
  have HX := Hd hx
  have HY := Hd hy
  obtain ⟨l1, c0, c1, -, -⟩ := p0.facts
  obtain ⟨l2, d0, d1, -, -⟩ := q0.facts
  clear D1 D2 hx hy h g
  go_region_held3 (fun w' => Below W.heap.size W w' ∧ ∀ b o, b < W.heap.size → w'.cell? ⟨b, o, none⟩ = W.cell? ⟨b, o, none⟩)
    (first
      | exact ⟨(Below.refl _ _).drew, fun _ _ _ => rfl⟩
      | (obtain ⟨q, _⟩ := ‹Below W.heap.size W _ ∧ _›; have q' := belowTo q hbx; exact ⟨q', fun b o h => q'.cell (p := ⟨b, o, none⟩) h⟩))
    (first
      | (go_at_call 214; with_reducible refine (H1.out _ ?_).mono ?_; exact (‹Below W.heap.size W _ ∧ _›).1; rintro e wx ⟨rfl, hbx⟩)
      | (go_at_call 214; with_reducible refine (H2.out _ ?_).mono ?_; exact (‹Below W.heap.size W _ ∧ _›).1; rintro e wx ⟨rfl, hbx⟩))
  obtain ⟨q, _⟩ := ‹Below W.heap.size W _ ∧ _›
  obtain ⟨w2, E⟩ : ∃ V, V = wx := ⟨_, rfl⟩
  rw [← E] at q ⊢
  clear E hbx
  clear c0 c1 d0 d1
  go_wp2
  go_ret
  exact ⟨rfl, b0.trans (q.mono b0.size)⟩

theorem exact_Cmp_same (n1 n2 : Bool) (A B : Option Addr) (c d : Nat) (xs ys : List Nat) (a : Int) (ha : a = -1 ∧ n1 = true ∨ 0 ≤ a ∧ n1 = false) (hs1 : sgnI n1 xs = a) (hs2 : sgnI n2 ys = a) (hcx : Canon xs) (hcy : Canon ys) (hn : xs.length ≤ 4611686018427387904) (hm : ys.length ≤ 4611686018427387904) (w : World) (h : Raw w A c xs) (g : Raw w B d ys) :
    Calls Tryz.prog 216 #[.agg #[.bool n1, .slice A xs.length c], .agg #[.bool n2, .slice B ys.length d]] w fun e w' => e = .returned (.int .i64 (if n1 then cmpv (val ys) (val xs) else cmpv (val xs) (val ys))) ∧ Below w.heap.size w w' := by
  have HS1 := Hd hs1
  have HS2 := Hd hs2
  have e1 : (a == a) = true := by simp
  have e2 : (a != a) = false := by simp
  have HA := Hd ha
  clear hs1 hs2 ha
  have p0 := (Pair.new w 24 (.bool n1) (.slice A xs.length c)).alloc (.cells #[.bool n2, .slice B ys.length d] 24)
  have q0 := Pair.new (w.alloc (.cells #[.bool n1, .slice A xs.length c] 24)) 24 (.bool n2) (.slice B ys.length d)
  have b0 := ((Below.refl w.heap.size w).alloc (Nat.le_refl _) (.cells #[.bool n1, .slice A xs.length c] 24)).alloc (by simp) (.cells #[.bool n2, .slice B ys.length d] 24)
  have hx := (h.alloc (.cells #[.bool n1, .slice A xs.length c] 24)).alloc (.cells #[.bool n2, .slice B ys.length d] 24)
  have hy := (g.alloc (.cells #[.bool n1, .slice A xs.length c] 24)).alloc (.cells #[.bool n2, .slice B ys.length d] 24)
  simp only [World.size_alloc] at q0
  go_enter Tryz.func216, Tryz.ntmps216
  go_wp2_with fail
  obtain ⟨W, E⟩ : ∃ W, W = (w.alloc (.cells #[.bool n1, .slice A xs.length c] 24)).alloc (.cells #[.bool n2, .slice B ys.length d] 24) := ⟨_, rfl⟩
  rw [← E] at p0 q0 b0 hx hy ⊢
  clear E
  have D1 := fun (V : World) (hV : Below W.heap.size W V) => exact_Sign_any n1 A c xs V (hx.below hV)
  have D2 := fun (V : World) (hV : Below W.heap.size W V) => exact_Sign_any n2 B d ys V (hy.below hV)
  rw [HS1.out] at D1
  rw [HS2.out] at D2
  have H1 := Hd D1
  have H2 := Hd D2
  have HX := Hd hx
  have HY := Hd hy
  obtain ⟨l1, c0, c1, -, -⟩ := p0.facts
  obtain ⟨l2, d0, d1, -, -⟩ := q0.facts
  clear D1 D2 hx hy h g
  go_region_held3 (fun w' => Below W.heap.size W w' ∧ ∀ b o, b < W.heap.size → w'.cell? ⟨b, o, none⟩ = W.cell? ⟨b, o, none⟩)
    (first
      | exact ⟨(Below.refl _ _).drew, fun _ _ _ => rfl⟩
      | (obtain ⟨q, _⟩ := ‹Below W.heap.size W _ ∧ _›; have q' := belowTo q hbx; exact ⟨q', fun b o h => q'.cell (p := ⟨b, o, none⟩) h⟩))
    (first
      | (go_at_call 214; with_reducible refine (H1.out _ ?_).mono ?_; exact (‹Below W.heap.size W _ ∧ _›).1; rintro e wx ⟨rfl, hbx⟩)
      | (go_at_call 214; with_reducible refine (H2.out _ ?_).mono ?_; exact (‹Below W.heap.size W _ ∧ _›).1; rintro e wx ⟨rfl, hbx⟩))
  obtain ⟨q, _⟩ := ‹Below W.heap.size W _ ∧ _›
  obtain ⟨w2, E⟩ : ∃ V, V = wx := ⟨_, rfl⟩
  rw [← E] at q ⊢
  clear E hbx
  clear c0 c1 d0 d1
  have hx2 := HX.out.below q
  have hy2 := HY.out.below q
  have p2 := p0.below q
  have q2 := q0.below q
  obtain ⟨k1, c0, c1, -, -⟩ := p2.facts
  obtain ⟨k2, d0, d1, -, -⟩ := q2.facts
  have b2 := b0.trans (q.mono b0.size)
  clear p0 q0 b0 q l1 l2 p2 q2 HX HY H1 H2
  go_wp2_with fail
  refine (exact_size_any A B c d xs ys hcx hcy hn hm _ hx2 hy2).mono ?_
  rintro e w3 ⟨z, rfl, hz1, hz2, t1, t2, t3, hb⟩
  have b3 := belowTo b2 hb
  have c0' : w3.cell? ⟨w.heap.size, 0, none⟩ = some (.bool n1) := by rw [hb.cell k1]; exact c0
  clear hx2 hy2 c0 c1 d0 d1 hb b2
  have hcase : val xs < val ys ∨ val xs = val ys ∨ val ys < val xs := by omega
  cases n1 <;> rcases hcase with hc | hc | hc
  · have fin : cmpv (val xs) (val ys) = -1 := cmpv_lt hc
    have HF := Hd fin
    have hz := t1 hc
    clear fin t1 t2 t3 hc HA
    have hmx : max (-1) (min 1 z) = -1 := by omega
    have HM := Hd hmx
    clear hmx
    go_wp2
    go_ret
    exact ⟨by show _ = Ending.returned (.int .i64 (cmpv (val xs) (val ys))); rw [HF.out]; show Ending.returned (.int .i64 (max (-1) (min 1 z))) = _; rw [HM.out], b3⟩
  · have fin : cmpv (val xs) (val ys) = 0 := by rw [hc]; exact cmpv_eq _
    have HF := Hd fin
    have hz := t2 hc
    clear fin t1 t2 t3 hc HA
    subst hz
    go_wp2
    go_ret
    exact ⟨by show _ = Ending.returned (.int .i64 (cmpv (val xs) (val ys))); rw [HF.out]; rfl, b3⟩
  · have fin : cmpv (val xs) (val ys) = 1 := cmpv_gt hc
    have HF := Hd fin
    have hz := t3 hc
    clear fin t1 t2 t3 hc HA
    have hmx : max (-1) (min 1 z) = 1 := by omega
    have HM := Hd hmx
    clear hmx
    go_wp2
    go_ret
    exact ⟨by show _ = Ending.returned (.int .i64 (cmpv (val xs) (val ys))); rw [HF.out]; show Ending.returned (.int .i64 (max (-1) (min 1 z))) = _; rw [HM.out], b3⟩
  · have fin : cmpv (val ys) (val xs) = 1 := cmpv_gt hc
    have HF := Hd fin
    have hz := t1 hc
    clear fin t1 t2 t3 hc HA
    have hmx : max (-1) (min 1 (-z)) = 1 := by omega
    have HM := Hd hmx
    clear hmx
    go_wp2
    go_ret
    exact ⟨by show _ = Ending.returned (.int .i64 (cmpv (val ys) (val xs))); rw [HF.out]; show Ending.returned (.int .i64 (max (-1) (min 1 (-z)))) = _; rw [HM.out], b3⟩
  · have fin : cmpv (val ys) (val xs) = 0 := by rw [hc]; exact cmpv_eq _
    have HF := Hd fin
    have hz := t2 hc
    clear fin t1 t2 t3 hc HA
    subst hz
    go_wp2
    go_ret
    exact ⟨by show _ = Ending.returned (.int .i64 (cmpv (val ys) (val xs))); rw [HF.out]; rfl, b3⟩
  · have fin : cmpv (val ys) (val xs) = -1 := cmpv_lt hc
    have HF := Hd fin
    have hz := t3 hc
    clear fin t1 t2 t3 hc HA
    have hmx : max (-1) (min 1 (-z)) = -1 := by omega
    have HM := Hd hmx
    clear hmx
    go_wp2
    go_ret
    exact ⟨by show _ = Ending.returned (.int .i64 (cmpv (val ys) (val xs))); rw [HF.out]; show Ending.returned (.int .i64 (max (-1) (min 1 (-z)))) = _; rw [HM.out], b3⟩

def ival (neg : Bool) (xs : List Nat) : Int := if neg then -(val xs : Int) else val xs
def cmpz (a b : Int) : Int := if a < b then -1 else if b < a then 1 else 0
theorem cmpz_lt {a b : Int} (h : a < b) : cmpz a b = -1 := by simp [cmpz, h]
theorem cmpz_gt {a b : Int} (h : b < a) : cmpz a b = 1 := by
  unfold cmpz; rw [if_neg (by omega), if_pos h]
/- Plus of package exact: what it counts. (Written by wip/exact/genplus.py.) -/

theorem mixedOrders2 : Tryz.prog.follows .mixedOrders = true := by kernel_rfl
theorem len_of_val {xs ys : List Nat} (hx : Limbs xs) (hy : Limbs ys) (hc : Canon xs) (h : val xs ≤ val ys) : xs.length ≤ ys.length := by
  have e := natL_val hx hc
  rw [← e]
  exact natL_length_le.2 (Nat.lt_of_le_of_lt h (val_lt hy))
theorem exact_size_told (A B : Option Addr) (c d : Nat) (xs ys : List Nat) (hcx : Canon xs) (hcy : Canon ys) (hn : xs.length ≤ 4611686018427387904) (hm : ys.length ≤ 4611686018427387904) (w : World) (h : Raw w A c xs) (g : Raw w B d ys) :
    Calls Tryz.prog 255 #[.slice A xs.length c, .slice B ys.length d] w fun e w' => ∃ k : Int, e = .returned (.int .i64 k) ∧ ((val ys ≤ val xs → 0 ≤ k) ∧ (val xs < val ys → k < 0)) ∧ Below w.heap.size w w' := by
  refine (exact_size_any A B c d xs ys hcx hcy hn hm w h g).mono ?_
  rintro e w' ⟨k, rfl, h1, h2, h3, h4, h5, hb⟩
  refine ⟨k, rfl, ⟨fun h => ?_, h3⟩, hb⟩
  rcases Nat.lt_or_eq_of_le h with h | h
  · exact Int.le_of_lt (h5 h)
  · rw [h4 h.symm]; omega

theorem exact_Plus_like (n1 : Bool) (A B : Option Addr) (c d : Nat) (xs ys : List Nat) (hlx : xs.length ≤ 536870912) (hly : ys.length ≤ 536870912) (z : Int) (HZV : Hid (z = if n1 then -((val xs + val ys : Nat) : Int) else ((val xs + val ys : Nat) : Int))) (w : World) (h : Raw w A c xs) (g : Raw w B d ys) :
    Calls Tryz.prog 220 #[.agg #[.bool n1, .slice A xs.length c], .agg #[.bool n1, .slice B ys.length d]] w (RetInt w.heap.size w z) := by
  have px := ((Pair.new w 24 (.bool n1) (.slice A xs.length c)).alloc (.cells #[.bool n1, .slice B ys.length d] 24)).alloc (.cells #[.bool false, .slice none 0 0] 24)
  have py := (Pair.new (w.alloc (.cells #[.bool n1, .slice A xs.length c] 24)) 24 (.bool n1) (.slice B ys.length d)).alloc (.cells #[.bool false, .slice none 0 0] 24)
  have pr := Pair.new ((w.alloc (.cells #[.bool n1, .slice A xs.length c] 24)).alloc (.cells #[.bool n1, .slice B ys.length d] 24)) 24 (.bool false) (.slice none 0 0)
  have rx := (((h.alloc (.cells #[.bool n1, .slice A xs.length c] 24)).alloc (.cells #[.bool n1, .slice B ys.length d] 24)).alloc (.cells #[.bool false, .slice none 0 0] 24))
  have ry := (((g.alloc (.cells #[.bool n1, .slice A xs.length c] 24)).alloc (.cells #[.bool n1, .slice B ys.length d] 24)).alloc (.cells #[.bool false, .slice none 0 0] 24))
  have b0 := (((Below.refl w.heap.size w).alloc (Nat.le_refl _) (.cells #[.bool n1, .slice A xs.length c] 24)).alloc (by simp) (.cells #[.bool n1, .slice B ys.length d] 24)).alloc (by simp; omega) (.cells #[.bool false, .slice none 0 0] 24)
  simp only [World.size_alloc] at py pr
  clear h g
  go_enter Tryz.func220, Tryz.ntmps220
  go_wp2_with fail
  obtain ⟨W, E⟩ : ∃ W, W = ((w.alloc (.cells #[.bool n1, .slice A xs.length c] 24)).alloc (.cells #[.bool n1, .slice B ys.length d] 24)).alloc (.cells #[.bool false, .slice none 0 0] 24) := ⟨_, rfl⟩
  rw [← E] at px py pr b0 rx ry ⊢
  clear E
  have PX := Hd px
  have PY := Hd py
  have PR := Hd pr
  have B0 := Hd b0
  have RX := Hd rx
  have RY := Hd ry
  have hlr := pr.blk.lt
  have hsz := b0.size
  obtain ⟨l1, x0, x1, -, -⟩ := px.facts
  obtain ⟨l2, y0, y1, -, -⟩ := py.facts
  clear px py pr rx ry b0
  have C1 := Hd (fun (V : World) (hV : Below W.heap.size W V) => exact_add A B c d xs ys (by omega) (by omega) V (RX.out.below hV) (RY.out.below hV))
  have C2 := Hd (fun (V : World) (v : Value) (hV : OwnL V W.heap.size v (val xs + val ys) (max xs.length ys.length + 1)) => show Calls Tryz.prog 218 #[.bool n1, v] V (RetInt W.heap.size V z) from by rw [HZV.out]; exact exact_signed_own n1 v _ _ _ V hV)
  have HW := Hd (Below.refl W.heap.size W)
  refine wp_region_steps [.val (.pointer (some ⟨w.heap.size, 0, none⟩)), .val (.bool n1), .val (.pointer (some ⟨w.heap.size, 1, none⟩)), .val (.slice A xs.length c), .val (.pointer (some ⟨w.heap.size + 1, 1, none⟩)), .val (.slice B ys.length d), .step, .step, .step] 2 3 W
    (fun us V => match us with
      | [] => True
      | [va] => OwnL V W.heap.size va (val xs + val ys) (max xs.length ys.length + 1)
      | [_, vb] => IntOwn V W.heap.size vb z
      | _ => False)
    (fun _ V => ∃ A1 c1, IntOwn V W.heap.size (.agg #[.bool (decide (z < 0)), .slice A1 (natL z.natAbs).length c1]) z ∧ Pair V (w.heap.size + 1 + 1) 24 (.bool (decide (z < 0))) (.slice A1 (natL z.natAbs).length c1) ∧ Below w.heap.size w V)
    _ mixedOrders2 (by kernel_rfl) (by kernel_rfl) (by kernel_rfl) (by kernel_rfl) (by kernel_rfl) (by kernel_rfl) (by kernel_rfl) (by kernel_rfl) (by kernel_rfl) rfl ?_ HW.out trivial ?_ ?_ ?_
  · intro us V V' hg hb
    match us, hg with
    | [], _ => trivial
    | [va], hg => exact hg.below hb
    | [va, vb], hg => exact hg.below hb
  · simp [ValsOk, chainAct, fill, pairs, valAt]
    repeat' apply And.intro
    all_goals
      intro V hV
      obtain ⟨-, e0, e1, -, -⟩ := (PX.out.below hV).facts
      obtain ⟨-, f0, f1, -, -⟩ := (PY.out.below hV).facts
      clear hV
      go_simp
      exact Below.refl _ _
  · simp [StepsOk, chainAct, fill, pairs, valAt, stepNo, List.filter, Stp.isStep]
    refine ⟨fun V hV => ?_, fun va => ⟨fun V hV hva => ?_, fun vb V hV hvb => ?_⟩⟩
    · go_simp
      refine (C1.out V hV).mono ?_
      rintro e w' ⟨v, rfl, hv, hb⟩
      exact ⟨belowTo hV hb, hv.base hV.size⟩
    · go_simp
      refine (C2.out V va hva).mono ?_
      rintro e w' ⟨v, rfl, hv, hb⟩
      exact ⟨belowTo hV hb, hv⟩
    · obtain ⟨A1, c1, rfl, -⟩ := hvb.form
      have pr := PR.out.below hV
      obtain ⟨p1, p2, p3, p4, p5⟩ := pr.facts
      go_simp
      exact ⟨A1, c1, hvb.pair (by omega), pr.store _ _, below2 (belowTo B0.out hV) (by omega) _ _⟩
  · intro us V hus hF
    simp only [show ¬ (3 ≤ 2) by decide, if_false] at hF
    obtain ⟨A1, c1, hI, pr, hb⟩ := hF
    obtain ⟨u0, u1, u2, rfl⟩ : ∃ u0 u1 u2, us = [u0, u1, u2] := by
      match us, hus with
      | [u0, u1, u2], _ => exact ⟨u0, u1, u2, rfl⟩
    simp [chainAct, fill, pairs, valAt, stepNo, List.filter, Stp.isStep]
    obtain ⟨_, k0, k1, _, _⟩ := pr.facts
    clear PX PY RX RY l1 x0 x1 l2 y0 y1
    go_wp2_with fail
    exact bodyPost_ret (by simp [results, Tryz.results220, go_sem, k0, k1]) rfl ⟨_, rfl, hI.base hsz, hb⟩

theorem exact_Plus_x (n1 n2 : Bool) (hne : (n1 == n2) = false) (A B : Option Addr) (c d : Nat) (xs ys : List Nat) (hcx : Canon xs) (hcy : Canon ys) (hle : val ys ≤ val xs) (hlx : xs.length ≤ 536870912) (hly : ys.length ≤ 536870912) (z : Int) (HZV : Hid (z = if n1 then -((val xs - val ys : Nat) : Int) else ((val xs - val ys : Nat) : Int))) (w : World) (h : Raw w A c xs) (g : Raw w B d ys) :
    Calls Tryz.prog 220 #[.agg #[.bool n1, .slice A xs.length c], .agg #[.bool n2, .slice B ys.length d]] w (RetInt w.heap.size w z) := by
  have hlen : ys.length ≤ xs.length := len_of_val g.limbs h.limbs hcy (by omega)
  have HLE := Hd (show val ys ≤ val xs by omega)
  have px := ((Pair.new w 24 (.bool n1) (.slice A xs.length c)).alloc (.cells #[.bool n2, .slice B ys.length d] 24)).alloc (.cells #[.bool false, .slice none 0 0] 24)
  have py := (Pair.new (w.alloc (.cells #[.bool n1, .slice A xs.length c] 24)) 24 (.bool n2) (.slice B ys.length d)).alloc (.cells #[.bool false, .slice none 0 0] 24)
  have pr := Pair.new ((w.alloc (.cells #[.bool n1, .slice A xs.length c] 24)).alloc (.cells #[.bool n2, .slice B ys.length d] 24)) 24 (.bool false) (.slice none 0 0)
  have rx := (((h.alloc (.cells #[.bool n1, .slice A xs.length c] 24)).alloc (.cells #[.bool n2, .slice B ys.length d] 24)).alloc (.cells #[.bool false, .slice none 0 0] 24))
  have ry := (((g.alloc (.cells #[.bool n1, .slice A xs.length c] 24)).alloc (.cells #[.bool n2, .slice B ys.length d] 24)).alloc (.cells #[.bool false, .slice none 0 0] 24))
  have b0 := (((Below.refl w.heap.size w).alloc (Nat.le_refl _) (.cells #[.bool n1, .slice A xs.length c] 24)).alloc (by simp) (.cells #[.bool n2, .slice B ys.length d] 24)).alloc (by simp; omega) (.cells #[.bool false, .slice none 0 0] 24)
  simp only [World.size_alloc] at py pr
  clear h g
  go_enter Tryz.func220, Tryz.ntmps220
  go_wp2_with fail
  obtain ⟨W, E⟩ : ∃ W, W = ((w.alloc (.cells #[.bool n1, .slice A xs.length c] 24)).alloc (.cells #[.bool n2, .slice B ys.length d] 24)).alloc (.cells #[.bool false, .slice none 0 0] 24) := ⟨_, rfl⟩
  rw [← E] at px py pr b0 rx ry ⊢
  clear E
  have PX := Hd px
  have PY := Hd py
  have PR := Hd pr
  have B0 := Hd b0
  have RX := Hd rx
  have RY := Hd ry
  have hlr := pr.blk.lt
  have hsz := b0.size
  obtain ⟨l1, x0, x1, -, -⟩ := px.facts
  obtain ⟨l2, y0, y1, -, -⟩ := py.facts
  clear px py pr rx ry b0
  have C0 := Hd (fun (V : World) (hV : Below W.heap.size W V) => exact_size_told A B c d xs ys hcx hcy (by omega) (by omega) V (RX.out.below hV) (RY.out.below hV))
  have C1 := Hd (fun (V : World) (hV : Below W.heap.size W V) => exact_sub A B c d xs ys hlen HLE.out (by omega) V (RX.out.below hV) (RY.out.below hV))
  have C2 := Hd (fun (V : World) (v : Value) (hV : OwnL V W.heap.size v (val xs - val ys) xs.length) => show Calls Tryz.prog 218 #[.bool n1, v] V (RetInt W.heap.size V z) from by rw [HZV.out]; exact exact_signed_own n1 v _ _ _ V hV)
  refine (C0.out W (Below.refl _ _)).mono ?_
  rintro e wz ⟨k, rfl, hk, hbz⟩
  have HW := Hd hbz
  have hk2 := hk.1 hle
  have hdk : decide ((0 : Int) ≤ k) = true := by simp; omega
  obtain ⟨-, xz0, xz1, -, -⟩ := (PX.out.below hbz).facts
  obtain ⟨-, yz0, yz1, -, -⟩ := (PY.out.below hbz).facts
  clear hk hbz C0 hle hcx hcy hne
  go_wp2_with fail
  refine wp_region_steps [.val (.pointer (some ⟨w.heap.size, 0, none⟩)), .val (.bool n1), .val (.pointer (some ⟨w.heap.size, 1, none⟩)), .val (.slice A xs.length c), .val (.pointer (some ⟨w.heap.size + 1, 1, none⟩)), .val (.slice B ys.length d), .step, .step, .step] 2 3 W
    (fun us V => match us with
      | [] => True
      | [va] => OwnL V W.heap.size va (val xs - val ys) (xs.length)
      | [_, vb] => IntOwn V W.heap.size vb z
      | _ => False)
    (fun _ V => ∃ A1 c1, IntOwn V W.heap.size (.agg #[.bool (decide (z < 0)), .slice A1 (natL z.natAbs).length c1]) z ∧ Pair V (w.heap.size + 1 + 1) 24 (.bool (decide (z < 0))) (.slice A1 (natL z.natAbs).length c1) ∧ Below w.heap.size w V)
    _ mixedOrders2 (by kernel_rfl) (by kernel_rfl) (by kernel_rfl) (by kernel_rfl) (by kernel_rfl) (by kernel_rfl) (by kernel_rfl) (by kernel_rfl) (by kernel_rfl) rfl ?_ HW.out trivial ?_ ?_ ?_
  · intro us V V' hg hb
    match us, hg with
    | [], _ => trivial
    | [va], hg => exact hg.below hb
    | [va, vb], hg => exact hg.below hb
  · simp [ValsOk, chainAct, fill, pairs, valAt]
    repeat' apply And.intro
    all_goals
      intro V hV
      obtain ⟨-, e0, e1, -, -⟩ := (PX.out.below hV).facts
      obtain ⟨-, f0, f1, -, -⟩ := (PY.out.below hV).facts
      clear hV
      go_simp
      exact Below.refl _ _
  · simp [StepsOk, chainAct, fill, pairs, valAt, stepNo, List.filter, Stp.isStep]
    refine ⟨fun V hV => ?_, fun va => ⟨fun V hV hva => ?_, fun vb V hV hvb => ?_⟩⟩
    · go_simp
      refine (C1.out V hV).mono ?_
      rintro e w' ⟨v, rfl, hv, hb⟩
      exact ⟨belowTo hV hb, hv.base hV.size⟩
    · go_simp
      refine (C2.out V va hva).mono ?_
      rintro e w' ⟨v, rfl, hv, hb⟩
      exact ⟨belowTo hV hb, hv⟩
    · obtain ⟨A1, c1, rfl, -⟩ := hvb.form
      have pr := PR.out.below hV
      obtain ⟨p1, p2, p3, p4, p5⟩ := pr.facts
      go_simp
      exact ⟨A1, c1, hvb.pair (by omega), pr.store _ _, below2 (belowTo B0.out hV) (by omega) _ _⟩
  · intro us V hus hF
    simp only [show ¬ (3 ≤ 2) by decide, if_false] at hF
    obtain ⟨A1, c1, hI, pr, hb⟩ := hF
    obtain ⟨u0, u1, u2, rfl⟩ : ∃ u0 u1 u2, us = [u0, u1, u2] := by
      match us, hus with
      | [u0, u1, u2], _ => exact ⟨u0, u1, u2, rfl⟩
    simp [chainAct, fill, pairs, valAt, stepNo, List.filter, Stp.isStep]
    obtain ⟨_, k0, k1, _, _⟩ := pr.facts
    clear PX PY RX RY l1 x0 x1 l2 y0 y1 xz0 xz1 yz0 yz1
    go_wp2_with fail
    exact bodyPost_ret (by simp [results, Tryz.results220, go_sem, k0, k1]) rfl ⟨_, rfl, hI.base hsz, hb⟩

theorem exact_Plus_y (n1 n2 : Bool) (hne : (n1 == n2) = false) (A B : Option Addr) (c d : Nat) (xs ys : List Nat) (hcx : Canon xs) (hcy : Canon ys) (hle : val xs < val ys) (hlx : xs.length ≤ 536870912) (hly : ys.length ≤ 536870912) (z : Int) (HZV : Hid (z = if n2 then -((val ys - val xs : Nat) : Int) else ((val ys - val xs : Nat) : Int))) (w : World) (h : Raw w A c xs) (g : Raw w B d ys) :
    Calls Tryz.prog 220 #[.agg #[.bool n1, .slice A xs.length c], .agg #[.bool n2, .slice B ys.length d]] w (RetInt w.heap.size w z) := by
  have hlen : xs.length ≤ ys.length := len_of_val h.limbs g.limbs hcx (by omega)
  have HLE := Hd (show val xs ≤ val ys by omega)
  have px := ((Pair.new w 24 (.bool n1) (.slice A xs.length c)).alloc (.cells #[.bool n2, .slice B ys.length d] 24)).alloc (.cells #[.bool false, .slice none 0 0] 24)
  have py := (Pair.new (w.alloc (.cells #[.bool n1, .slice A xs.length c] 24)) 24 (.bool n2) (.slice B ys.length d)).alloc (.cells #[.bool false, .slice none 0 0] 24)
  have pr := Pair.new ((w.alloc (.cells #[.bool n1, .slice A xs.length c] 24)).alloc (.cells #[.bool n2, .slice B ys.length d] 24)) 24 (.bool false) (.slice none 0 0)
  have rx := (((h.alloc (.cells #[.bool n1, .slice A xs.length c] 24)).alloc (.cells #[.bool n2, .slice B ys.length d] 24)).alloc (.cells #[.bool false, .slice none 0 0] 24))
  have ry := (((g.alloc (.cells #[.bool n1, .slice A xs.length c] 24)).alloc (.cells #[.bool n2, .slice B ys.length d] 24)).alloc (.cells #[.bool false, .slice none 0 0] 24))
  have b0 := (((Below.refl w.heap.size w).alloc (Nat.le_refl _) (.cells #[.bool n1, .slice A xs.length c] 24)).alloc (by simp) (.cells #[.bool n2, .slice B ys.length d] 24)).alloc (by simp; omega) (.cells #[.bool false, .slice none 0 0] 24)
  simp only [World.size_alloc] at py pr
  clear h g
  go_enter Tryz.func220, Tryz.ntmps220
  go_wp2_with fail
  obtain ⟨W, E⟩ : ∃ W, W = ((w.alloc (.cells #[.bool n1, .slice A xs.length c] 24)).alloc (.cells #[.bool n2, .slice B ys.length d] 24)).alloc (.cells #[.bool false, .slice none 0 0] 24) := ⟨_, rfl⟩
  rw [← E] at px py pr b0 rx ry ⊢
  clear E
  have PX := Hd px
  have PY := Hd py
  have PR := Hd pr
  have B0 := Hd b0
  have RX := Hd rx
  have RY := Hd ry
  have hlr := pr.blk.lt
  have hsz := b0.size
  obtain ⟨l1, x0, x1, -, -⟩ := px.facts
  obtain ⟨l2, y0, y1, -, -⟩ := py.facts
  clear px py pr rx ry b0
  have C0 := Hd (fun (V : World) (hV : Below W.heap.size W V) => exact_size_told A B c d xs ys hcx hcy (by omega) (by omega) V (RX.out.below hV) (RY.out.below hV))
  have C1 := Hd (fun (V : World) (hV : Below W.heap.size W V) => exact_sub B A d c ys xs hlen HLE.out (by omega) V (RY.out.below hV) (RX.out.below hV))
  have C2 := Hd (fun (V : World) (v : Value) (hV : OwnL V W.heap.size v (val ys - val xs) ys.length) => show Calls Tryz.prog 218 #[.bool n2, v] V (RetInt W.heap.size V z) from by rw [HZV.out]; exact exact_signed_own n2 v _ _ _ V hV)
  refine (C0.out W (Below.refl _ _)).mono ?_
  rintro e wz ⟨k, rfl, hk, hbz⟩
  have HW := Hd hbz
  have hk2 := hk.2 hle
  have hdk : decide ((0 : Int) ≤ k) = false := by simp; omega
  obtain ⟨-, xz0, xz1, -, -⟩ := (PX.out.below hbz).facts
  obtain ⟨-, yz0, yz1, -, -⟩ := (PY.out.below hbz).facts
  clear hk hbz C0 hle hcx hcy hne
  go_wp2_with fail
  refine wp_region_steps [.val (.pointer (some ⟨w.heap.size + 1, 0, none⟩)), .val (.bool n2), .val (.pointer (some ⟨w.heap.size + 1, 1, none⟩)), .val (.slice B ys.length d), .val (.pointer (some ⟨w.heap.size, 1, none⟩)), .val (.slice A xs.length c), .step, .step, .step] 2 3 W
    (fun us V => match us with
      | [] => True
      | [va] => OwnL V W.heap.size va (val ys - val xs) (ys.length)
      | [_, vb] => IntOwn V W.heap.size vb z
      | _ => False)
    (fun _ V => ∃ A1 c1, IntOwn V W.heap.size (.agg #[.bool (decide (z < 0)), .slice A1 (natL z.natAbs).length c1]) z ∧ Pair V (w.heap.size + 1 + 1) 24 (.bool (decide (z < 0))) (.slice A1 (natL z.natAbs).length c1) ∧ Below w.heap.size w V)
    _ mixedOrders2 (by kernel_rfl) (by kernel_rfl) (by kernel_rfl) (by kernel_rfl) (by kernel_rfl) (by kernel_rfl) (by kernel_rfl) (by kernel_rfl) (by kernel_rfl) rfl ?_ HW.out trivial ?_ ?_ ?_
  · intro us V V' hg hb
    match us, hg with
    | [], _ => trivial
    | [va], hg => exact hg.below hb
    | [va, vb], hg => exact hg.below hb
  · simp [ValsOk, chainAct, fill, pairs, valAt]
    repeat' apply And.intro
    all_goals
      intro V hV
      obtain ⟨-, e0, e1, -, -⟩ := (PX.out.below hV).facts
      obtain ⟨-, f0, f1, -, -⟩ := (PY.out.below hV).facts
      clear hV
      go_simp
      exact Below.refl _ _
  · simp [StepsOk, chainAct, fill, pairs, valAt, stepNo, List.filter, Stp.isStep]
    refine ⟨fun V hV => ?_, fun va => ⟨fun V hV hva => ?_, fun vb V hV hvb => ?_⟩⟩
    · go_simp
      refine (C1.out V hV).mono ?_
      rintro e w' ⟨v, rfl, hv, hb⟩
      exact ⟨belowTo hV hb, hv.base hV.size⟩
    · go_simp
      refine (C2.out V va hva).mono ?_
      rintro e w' ⟨v, rfl, hv, hb⟩
      exact ⟨belowTo hV hb, hv⟩
    · obtain ⟨A1, c1, rfl, -⟩ := hvb.form
      have pr := PR.out.below hV
      obtain ⟨p1, p2, p3, p4, p5⟩ := pr.facts
      go_simp
      exact ⟨A1, c1, hvb.pair (by omega), pr.store _ _, below2 (belowTo B0.out hV) (by omega) _ _⟩
  · intro us V hus hF
    simp only [show ¬ (3 ≤ 2) by decide, if_false] at hF
    obtain ⟨A1, c1, hI, pr, hb⟩ := hF
    obtain ⟨u0, u1, u2, rfl⟩ : ∃ u0 u1 u2, us = [u0, u1, u2] := by
      match us, hus with
      | [u0, u1, u2], _ => exact ⟨u0, u1, u2, rfl⟩
    simp [chainAct, fill, pairs, valAt, stepNo, List.filter, Stp.isStep]
    obtain ⟨_, k0, k1, _, _⟩ := pr.facts
    clear PX PY RX RY l1 x0 x1 l2 y0 y1 xz0 xz1 yz0 yz1
    go_wp2_with fail
    exact bodyPost_ret (by simp [results, Tryz.results220, go_sem, k0, k1]) rfl ⟨_, rfl, hI.base hsz, hb⟩

theorem exact_Plus (n1 n2 : Bool) (A B : Option Addr) (c d : Nat) (xs ys : List Nat) (hcx : Canon xs) (hcy : Canon ys) (hlx : xs.length ≤ 536870912) (hly : ys.length ≤ 536870912) (w : World) (h : Raw w A c xs) (g : Raw w B d ys) :
    Calls Tryz.prog 220 #[.agg #[.bool n1, .slice A xs.length c], .agg #[.bool n2, .slice B ys.length d]] w (RetInt w.heap.size w (ival n1 xs + ival n2 ys)) := by
  by_cases hn : (n1 == n2) = true
  · obtain rfl : n1 = n2 := by simpa using hn
    exact exact_Plus_like n1 A B c d xs ys hlx hly _ (by unfold ival; show _ = _; cases n1 <;> simp <;> omega) w h g
  · have hn' : (n1 == n2) = false := by simpa using hn
    have hn2 : n2 = !n1 := by cases n1 <;> cases n2 <;> simp_all
    by_cases hle : val ys ≤ val xs
    · exact exact_Plus_x n1 n2 hn' A B c d xs ys hcx hcy hle hlx hly _ (by unfold ival; show _ = _; subst hn2; cases n1 <;> simp <;> omega) w h g
    · exact exact_Plus_y n1 n2 hn' A B c d xs ys hcx hcy (by omega) hlx hly _ (by unfold ival; show _ = _; subst hn2; cases n1 <;> simp <;> omega) w h g
/- More of copies and sizes, for the laws' walks. -/

theorem TwinAt.far2 {w : World} {g g' : Nat} {xs : List Nat} (h : TwinAt w g xs) (hn : g ≠ g') (a b : Value) : TwinAt ((w.setCell ⟨g', 0, none⟩ a).setCell ⟨g', 1, none⟩ b) g xs := ⟨h.blk.far2 hn a b⟩
theorem keep_of {W w' : World} (q : Below W.heap.size W w') : Below W.heap.size W w' ∧ ∀ b o, b < W.heap.size → w'.cell? ⟨b, o, none⟩ = W.cell? ⟨b, o, none⟩ :=
  ⟨q, fun b o h => q.cell (p := ⟨b, o, none⟩) h⟩

end Go.Proofs.YthlehkjcfhnplaaGreatDoor
