/- Several texts in one: Short, RefBits, Same. -/
import Derived.Test.YtbdliabfdplohaaDoorBw06
import Derived.Test.YtbdliabfdplohaaDoorBwHd
import Derived.BigQuiet
import Derived.Test.YtbdliabfdplohaaDoorBw04
set_option maxRecDepth 100000
set_option maxHeartbeats 8000000
/- Limbs by one limb: bits.Div32, short of package exact and of the references. -/
namespace Go.Proofs.YtbdliabfdplohaaDoor
open Go.RowKit

theorem or_join (h l : Nat) (hh : h < 4294967296) (hl : l < 4294967296) : bits .or .u64 ((h : Int) * 4294967296) (l : Int) = ((h * 4294967296 + l : Nat) : Int) := by
  have e := bits_or_u64_nat (h * 4294967296) l (by omega) (by omega)
  have e2 : h * 4294967296 ||| l = h * 4294967296 + l := by
    have := Nat.shiftLeft_add_eq_or_of_lt (i := 32) (b := l) (by omega) h
    rw [Nat.shiftLeft_eq] at this
    exact this.symm
  rw [e2] at e
  rw [← e]
  simp

theorem bits_Div32 (h l y : Nat) (hh : h < y) (hl : l < 4294967296) (hy : y < 4294967296) (w : World) :
    Calls Tryd.prog 53 #[.int .u32 h, .int .u32 l, .int .u32 y] w fun e w' => e = .returned (.tuple #[.int .u32 ((h * 4294967296 + l) / y : Nat), .int .u32 ((h * 4294967296 + l) % y : Nat)]) ∧ Below w.heap.size w w' ∧ w.grownBy w' none := by
  have hy0 : (0 : Int) < (y : Int) := by omega
  have hyh : (h : Int) < (y : Int) := by omega
  have ej := or_join h l (by omega) hl
  have hq : (h * 4294967296 + l) / y < 4294967296 := by
    rw [Nat.div_lt_iff_lt_mul (by omega)]
    have := Nat.mul_le_mul_left 4294967296 (show h + 1 ≤ y from hh)
    omega
  have hr : (h * 4294967296 + l) % y < y := Nat.mod_lt _ (by omega)
  have hm : h * 4294967296 + l < 18446744073709551616 := by omega
  generalize hM : h * 4294967296 + l = M at *
  go_enter Tryd.func53, Tryd.ntmps53
  go_wp2_with fail
  go_quiet (fail)
  go_wp2_with fail
  go_ret2
  have e1 : IntKind.u64.wrap ((M : Int) / (y : Int)) % 4294967296 = ((M / y : Nat) : Int) := by
    rw [IntKind.wrap_u64, ← Int.natCast_ediv]
    generalize M / y = q at hq
    omega
  have e2 : (M : Int) % (y : Int) = ((M % y : Nat) : Int) := by rw [← Int.natCast_emod]
  exact ⟨two_eq e1 e2, below_drewN (Below.refl _ _) _, ⟨rfl, rfl, rfl, Nat.le_refl _, fun _ _ _ => rfl⟩⟩

theorem val_drop_set {zs : List Nat} {k d : Nat} (h : k < zs.length) : val ((zs.set k d).drop k) = d + 4294967296 * val (zs.drop (k + 1)) := by
  rw [List.drop_eq_getElem_cons (by simpa using h), val]
  rw [List.getElem_set_self, List.drop_set_of_lt (by omega)]
theorem short_step {Q R A d x : Nat} (h : Q * d + R = A) : ((R * 4294967296 + x) / d + 4294967296 * Q) * d + (R * 4294967296 + x) % d = x + 4294967296 * A := by
  have e := Nat.div_add_mod (R * 4294967296 + x) d
  rw [Nat.add_mul, Nat.mul_assoc 4294967296 Q d]
  rw [Nat.mul_comm d] at e
  generalize (R * 4294967296 + x) / d * d = a at *
  generalize Q * d = c at *
  omega

theorem grown_set {w0 w : World} {g : Nat} (h : w0.grownBy w (some g)) (k : Nat) (u : Value) : w0.grownBy (w.setCell ⟨g, k, none⟩ u) (some g) :=
  ⟨h.os, h.tape, h.output, by simpa [World.setCell] using h.size, fun b hb hn => (Below.heap_setCell _ ⟨g, k, none⟩ _ _ (fun e => hn (by rw [e]))).trans (h.block b hb hn)⟩
theorem grown_then {w0 w w' : World} {row : Option Nat} (h : w0.grownBy w row) (k : w.grownBy w' none) : w0.grownBy w' row :=
  ⟨k.os.trans h.os, k.tape.trans h.tape, k.output.trans h.output, Nat.le_trans h.size k.size, fun b hb hn => (k.block b (Nat.lt_of_lt_of_le hb h.size) (by simp)).trans (h.block b hb hn)⟩
theorem grown_below {w0 w : World} {g B : Nat} (h : w0.grownBy w (some g)) (hB : B ≤ g) (hs : B ≤ w0.heap.size) : Below B w0 w := (Below.refl B w0).grown h hs (fun k hk => by injection hk with hk; omega)

structure Shorted (w0 wr : World) (g cap : Nat) (zs : List Nat) (d k R : Nat) (zs' : List Nat) : Prop where
  len : zs'.length = zs.length
  limbs : Limbs zs'
  row : Front wr g cap zs'
  low : w0.grownBy wr (some g)
  here : zs'.take k = zs.take k
  done : val (zs'.drop k) * d + R = val (zs.drop k)
  rest : R < d
theorem Shorted.step {w0 wr wr' : World} {g cap : Nat} {zs zs' : List Nat} {d k R : Nat} (h : Shorted w0 wr g cap zs d (k + 1) R zs') (hk : k < zs.length) (hz : Limbs zs) (hg : wr.grownBy wr' none) :
    Shorted w0 (wr'.setCell ⟨g, k, none⟩ (.int .u32 (((R * 4294967296 + zs[k]) / d : Nat) : Int))) g cap zs d k ((R * 4294967296 + zs[k]) % d) (zs'.set k ((R * 4294967296 + zs[k]) / d)) := by
  have hR := h.rest
  have hx := limbs_get hz hk
  have hq : (R * 4294967296 + zs[k]) / d < 4294967296 := by
    rw [Nat.div_lt_iff_lt_mul (by omega)]
    have := Nat.mul_le_mul_left 4294967296 (show R + 1 ≤ d from hR)
    omega
  have hrow : Front wr' g cap zs' := h.row.stays hg (by simp)
  refine ⟨by simp [h.len], limbs_set h.limbs hq, hrow.set (by rw [h.len]; exact hk) _, grown_set (grown_then h.low hg) k _, ?_, ?_, Nat.mod_lt _ (by omega)⟩
  · have e := h.here
    rw [List.take_set_of_le (Nat.le_refl _)]
    have := congrArg (List.take k) e
    rwa [List.take_take, List.take_take, Nat.min_eq_left (by omega)] at this
  · rw [val_drop_set (by rw [h.len]; exact hk), val_drop_more hk]
    exact short_step h.done

theorem exact_short (g cap c d : Nat) (zs : List Nat) (hd : 0 < d) (hd2 : d < 4294967296) (hz : Limbs zs) (hl : zs.length ≤ 1152921504606846976) (w : World) (h : Front w g cap zs) :
    Calls Tryd.prog 32 #[.slice (some ⟨g, 0, none⟩) zs.length c, .int .u32 d] w fun e w' => e = .returned (.int .u32 ((val zs % d : Nat) : Int)) ∧ ∃ zs', zs'.length = zs.length ∧ Limbs zs' ∧ val zs' = val zs / d ∧ Front w' g cap zs' ∧ w.grownBy w' (some g) := by
  have H0 := Hd (⟨zs, rfl, hz, h, World.grownBy.refl w _, rfl, by rw [List.drop_length]; simp [val], hd⟩ : ∃ zs', Shorted w w g cap zs d zs.length 0 zs')
  have HZ := Hd hz
  clear h hz
  go_enter Tryd.func32, Tryd.ntmps32
  go_wp2_with fail
  go_loopw [5, 6] (fun r s wr => ∃ k R : Nat, ∃ i : Int, s = .int .i64 i ∧ i = (k : Int) - 1 ∧ r = .int .u32 R ∧ k ≤ zs.length ∧ R < d ∧ Hid (∃ zs', Shorted w wr g cap zs d k R zs')) (fun _ s _ => (intOf s + 1).toNat)
  case atStart => exact ⟨zs.length, 0, _, rfl, by omega, rfl, Nat.le_refl _, hd, H0⟩
  case round =>
    obtain ⟨k, R, i, rfl, hik, rfl, hk, hR, HR⟩ := hrel
    clear H0
    obtain ⟨zs', hs⟩ := HR.out
    have HS := Hd hs
    clear HR hs
    cases k with
    | zero =>
      obtain rfl : i = -1 := by omega
      clear hik
      have hv := HS.out.done
      have hres : (R : Nat) = val zs % d ∧ val zs' = val zs / d := by
        simp only [List.drop_zero] at hv
        rw [← hv]
        constructor
        · rw [Nat.mul_add_mod_self_right, Nat.mod_eq_of_lt hR]
        · rw [Nat.add_comm, Nat.add_mul_div_right _ _ hd, Nat.div_eq_of_lt hR, Nat.zero_add]
      have HV := Hd hres
      clear hres hv
      go_wp2_with fail
      go_ret
      exact ⟨by rw [HV.out.1]; rfl, zs', HS.out.len, HS.out.limbs, HV.out.2, HS.out.row, HS.out.low⟩
    | succ j =>
      obtain rfl : i = (j : Int) := by omega
      clear hik
      have a0 : (0 : Int) ≤ (j : Int) := by omega
      have a1 : (j : Int) < (zs.length : Int) := by omega
      have hj : j < zs.length := by omega
      have hj2 : j < zs'.length := by rw [HS.out.len]; exact hj
      have fz := HS.out.row.frozen j
      have hcell := HS.out.row.cell hj2
      have hsame : zs'[j] = zs[j] := by
        have e := congrArg (fun l : List Nat => l[j]?) HS.out.here
        simp only [List.getElem?_take, if_pos (Nat.lt_succ_self j)] at e
        rw [List.getElem?_eq_getElem hj2, List.getElem?_eq_getElem hj] at e
        exact Option.some.inj e
      rw [hsame] at hcell
      have hx := limbs_get HZ.out hj
      have S := Hd (fun (wr' : World) (hg : wr.grownBy wr' none) => HS.out.step hj HZ.out hg)
      have hR2 := (HS.out.step hj HZ.out (World.grownBy.refl wr none)).rest
      generalize zs[j] = x at hcell hx S hR2
      have C := Hd (fun V => bits_Div32 R x d hR hx hd2 V)
      have hlt := HS.out.row.lt
      generalize (R * 4294967296 + x) / d = qq at C S
      generalize (R * 4294967296 + x) % d = rr at C S hR2
      have HROW := Hd HS.out.row
      clear hsame HS
      go_wp2_with (first
        | (go_at_call 53; with_reducible refine (C.out _).mono ?_; rintro e w' ⟨rfl, hbx, hgx⟩; have hrow' : Front w' g cap zs' := HROW.out.stays hgx (by simp); have fz2 := hrow'.frozen j; have hcell2 : w'.cell? ⟨g, j, none⟩ = some (.int .u32 x) := (World.cell?_of_block (hgx.block g hlt (by simp))).trans hcell; have hlt2 := hrow'.lt; clear hrow'))
      go_roundw
      case rel => exact ⟨j, rr, _, rfl, rfl, rfl, by omega, hR2, Hd ⟨_, S.out w' hgx⟩⟩
      case measure => simp [intOf]

structure ShortedTo (w0 wr : World) (g : Nat) (xs : List Nat) (d k R : Nat) (zs' : List Nat) : Prop where
  len : zs'.length = xs.length
  limbs : Limbs zs'
  row : Row wr g zs'
  low : Below w0.heap.size w0 wr
  done : val (zs'.drop k) * d + R = val (xs.drop k)
  rest : R < d
theorem ShortedTo.step {w0 wr : World} {g : Nat} {xs zs' : List Nat} {d k R : Nat} (h : ShortedTo w0 wr g xs d (k + 1) R zs') (hk : k < xs.length) (hz : Limbs xs) (hg : w0.heap.size ≤ g) :
    ShortedTo w0 (wr.setCell ⟨g, k, none⟩ (.int .u32 (((R * 4294967296 + xs[k]) / d : Nat) : Int))) g xs d k ((R * 4294967296 + xs[k]) % d) (zs'.set k ((R * 4294967296 + xs[k]) / d)) ∧ (R * 4294967296 + xs[k]) / d < 4294967296 := by
  have hR := h.rest
  have hx := limbs_get hz hk
  have hq : (R * 4294967296 + xs[k]) / d < 4294967296 := by
    rw [Nat.div_lt_iff_lt_mul (by omega)]
    have := Nat.mul_le_mul_left 4294967296 (show R + 1 ≤ d from hR)
    omega
  refine ⟨⟨by simp [h.len], limbs_set h.limbs hq, h.row.set k _, h.low.setCell (p := ⟨g, k, none⟩) hg _, ?_, Nat.mod_lt _ (by omega)⟩, hq⟩
  rw [val_drop_set (by rw [h.len]; exact hk), val_drop_more hk]
  exact short_step h.done

/- Bits of the references: a loop. -/

/- SameInt: the same sign, the same limbs. -/

theorem take_more_eq {xs ys : List Nat} {k : Nat} (hx : k < xs.length) (hy : k < ys.length) (h : xs.take k = ys.take k) (e : xs[k] = ys[k]) : xs.take (k + 1) = ys.take (k + 1) := by
  rw [List.take_succ_eq_append_getElem hx, List.take_succ_eq_append_getElem hy, h, e]

theorem same_loop (neg : Bool) (A B : Option Addr) (c d : Nat) (xs ys : List Nat) (hlen : xs.length = ys.length) (w : World) (h : Raw w A c xs) (g : Raw w B d ys) :
    Calls Tryd.prog 16 #[.agg #[.bool neg, .slice A xs.length c], .agg #[.bool neg, .slice B ys.length d]] w fun e w' => e = .returned (.bool (decide (xs = ys))) ∧ Below w.heap.size w w' := by
  have HX := Hd h
  have HY := Hd g
  have hm := h.most
  have hc := h.cap
  have HE := Hd hlen
  rw [← hlen]
  clear h g hlen
  go_enter Tryd.func16, Tryd.ntmps16
  go_wp2_with fail
  go_loopw [5] (fun i wr => ∃ k m : Nat, i = .int .i64 k ∧ k ≤ xs.length ∧ xs.take k = ys.take k ∧ wr = ((w.alloc (.cells #[.bool neg, .slice A xs.length c] 24)).alloc (.cells #[.bool neg, .slice B xs.length d] 24)).drewN m) (fun i _ => xs.length - (intOf i).toNat)
  case atStart => exact ⟨0, 0, rfl, Nat.zero_le _, rfl, rfl⟩
  case round =>
    obtain ⟨k, m, rfl, hk, htake, rfl⟩ := hrel
    have HT := Hd htake
    clear htake
    by_cases hlt : k < xs.length
    · have hlt2 : k < ys.length := by rw [← HE.out]; exact hlt
      obtain ⟨ad, rfl, hbl, hcell⟩ := HX.out.reads.get hlt
      obtain ⟨bd, rfl, hbl2, hcell2⟩ := HY.out.reads.get hlt2
      have hbk : (ad.add k).block < w.heap.size := by rw [block_of_add]; exact hbl
      have hbk2 : (bd.add k).block < w.heap.size := by rw [block_of_add]; exact hbl2
      have a0 : (0 : Int) ≤ (k : Int) := by omega
      have a1 : (k : Int) < (xs.length : Int) := by omega
      by_cases he : xs[k] = ys[k]
      · have HQ := Hd he
        rw [← he] at hcell2
        generalize hz : xs[k] = z at hcell hcell2
        clear he hz
        go_wp2_with fail
        go_quiet (fail)
        go_wp2_with fail
        go_roundw
        case rel => exact ⟨k + 1, _, by go_num, hlt, take_more_eq hlt hlt2 HT.out HQ.out, rfl⟩
        case measure => simp [intOf]; omega
      · have hne : ((xs[k] : Int) == (ys[k] : Int)) = false := by simp; omega
        have hne2 : ((xs[k] : Int) != (ys[k] : Int)) = true := by simp; omega
        have hd : decide (xs = ys) = false := by simp; rintro rfl; exact he rfl
        have HD := Hd hd
        clear hd
        have HQ := Hd he
        clear he
        generalize xs[k] = y at *
        generalize ys[k] = z at *
        go_wp2_with fail
        go_quiet (fail)
        go_wp2
        go_ret
        exact ⟨by rw [HD.out]; rfl, by repeat (first | exact Below.refl _ _ | apply below_drewN | refine Below.alloc ?_ (by simp; try omega) _)⟩
    · have hd : decide (xs = ys) = true := by
        have e := HT.out
        rw [List.take_of_length_le (by omega), List.take_of_length_le (by rw [← HE.out]; omega)] at e
        simp [e]
      have HD := Hd hd
      clear hd
      go_wp2
      go_ret
      exact ⟨by rw [HD.out]; rfl, by repeat (first | exact Below.refl _ _ | apply below_drewN | refine Below.alloc ?_ (by simp; try omega) _)⟩

theorem same_sign (n1 n2 : Bool) (hn : n1 ≠ n2) (A B : Option Addr) (c d n m : Nat) (w : World) :
    Calls Tryd.prog 16 #[.agg #[.bool n1, .slice A n c], .agg #[.bool n2, .slice B m d]] w fun e w' => e = .returned (.bool false) ∧ Below w.heap.size w w' := by
  cases n1 <;> cases n2
  · exact absurd rfl hn
  · clear hn
    go_enter Tryd.func16, Tryd.ntmps16
    go_wp2
    go_ret
    exact ⟨rfl, by repeat (first | exact Below.refl _ _ | apply below_drewN | refine Below.alloc ?_ (by simp; try omega) _)⟩
  · clear hn
    go_enter Tryd.func16, Tryd.ntmps16
    go_wp2
    go_ret
    exact ⟨rfl, by repeat (first | exact Below.refl _ _ | apply below_drewN | refine Below.alloc ?_ (by simp; try omega) _)⟩
  · exact absurd rfl hn

theorem same_length (neg : Bool) (A B : Option Addr) (c d n m : Nat) (hn : n ≠ m) (w : World) :
    Calls Tryd.prog 16 #[.agg #[.bool neg, .slice A n c], .agg #[.bool neg, .slice B m d]] w fun e w' => e = .returned (.bool false) ∧ Below w.heap.size w w' := by
  have h1 : ((n : Int) == (m : Int)) = false := by simp; omega
  have h2 : ((n : Int) != (m : Int)) = true := by simp; omega
  clear hn
  go_enter Tryd.func16, Tryd.ntmps16
  go_wp2
  go_ret
  exact ⟨rfl, by repeat (first | exact Below.refl _ _ | apply below_drewN | refine Below.alloc ?_ (by simp; try omega) _)⟩

theorem same_any (n1 n2 : Bool) (A B : Option Addr) (c d : Nat) (xs ys : List Nat) (w : World) (h : Raw w A c xs) (g : Raw w B d ys) :
    Calls Tryd.prog 16 #[.agg #[.bool n1, .slice A xs.length c], .agg #[.bool n2, .slice B ys.length d]] w fun e w' => e = .returned (.bool (decide (n1 = n2 ∧ xs = ys))) ∧ Below w.heap.size w w' := by
  by_cases hn : n1 = n2
  · subst hn
    by_cases hl : xs.length = ys.length
    · have e : decide (n1 = n1 ∧ xs = ys) = decide (xs = ys) := by simp
      rw [e]
      exact same_loop n1 A B c d xs ys hl w h g
    · have e : decide (n1 = n1 ∧ xs = ys) = false := by simp; rintro rfl; exact hl rfl
      rw [e]
      exact same_length n1 A B c d _ _ hl w
  · have e : decide (n1 = n2 ∧ xs = ys) = false := by simp [hn]
    rw [e]
    exact same_sign n1 n2 hn A B c d _ _ w
end Go.Proofs.YtbdliabfdplohaaDoor
