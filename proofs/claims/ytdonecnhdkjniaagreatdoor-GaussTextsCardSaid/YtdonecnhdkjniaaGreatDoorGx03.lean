/- Several texts in one: Check, Sign, RefOf, Vals, Carry. -/
import Derived.Test.YtdonecnhdkjniaaGreatDoorGx02
import Derived.Deep.RegionHeld3
import Derived.IntWalk
import Derived.Deep.QuietTactic
import Derived.BigQuiet
set_option maxRecDepth 100000
set_option maxHeartbeats 8000000
namespace Go.Proofs.YtdonecnhdkjniaaGreatDoor
open Go.RowKit

def okI (neg : Bool) (xs : List Nat) : Bool := decide (xs.length <= 2048) && (xs.getLast? != some 0) && !(xs.isEmpty && neg)
theorem okI_true {neg : Bool} {xs : List Nat} : okI neg xs = true ↔ xs.length <= 2048 /\ ZU xs /\ (xs = [] -> neg = false) := by
 simp only [okI, ZU, Bool.and_eq_true, decide_eq_true_eq, bne_iff_ne, ne_eq, Bool.not_eq_true', Bool.and_eq_false_iff, List.isEmpty_eq_false_iff]
 constructor
 . rintro ⟨⟨h1, h2⟩, h3⟩
   refine ⟨h1, fun x hx h0 => h2 (by rw [hx, h0]), fun h => ?_⟩
   rcases h3 with h3 | h3
   . exact absurd h h3
   . exact h3
 . rintro ⟨h1, h2, h3⟩
   refine ⟨⟨h1, fun h => h2 0 h rfl⟩, ?_⟩
   by_cases h : xs = []
   . exact .inr (h3 h)
   . exact .inl h
theorem Y5 {xs : List Nat} {k : Nat} (h : xs.length = k + 1) : xs.getLast? = some (xs[k]'(by omega)) := by
 have e : xs.length - 1 = k := by omega
 rw [List.getLast?_eq_getElem?, e, List.getElem?_eq_getElem]

def X7 (neg : Bool) (xs : List Nat) : Int := if okI neg xs then 0 else 1


theorem exact_Check_long (neg : Bool) (A : Option Addr) (c : Nat) (xs : List Nat) (w : World) (h : Zm w A c xs) (hl : 2048 < xs.length) :
  Calls Tryz.prog 206 #[.agg #[.bool neg, .slice A xs.length c]] w fun e w' => e = .returned (.int .i64 1) /\ Below w.heap.size w w' := by
 have h1 := h.cap
 have h2 := h.most
 clear h
 have hl2 : (2048 : Int) < (xs.length : Int) := by omega
 generalize xs.length = n at *
 go_enter Tryz.func206, Tryz.ntmps206
 go_wp2
 go_ret
 exact ⟨rfl, by repeat (first | exact Below.refl _ _ | apply Below.drew | refine Below.alloc ?_ (by simp; try omega) _)⟩

theorem exact_Check_empty (neg : Bool) (A : Option Addr) (c : Nat) (xs : List Nat) (w : World) (hl : xs.length = 0) :
   Calls Tryz.prog 206 #[.agg #[.bool neg, .slice A xs.length c]] w fun e w' => e = .returned (.int .i64 (if neg then 1 else 0)) /\ Below w.heap.size w w' := by
 rw [hl]
 clear hl
 cases neg
 . go_enter Tryz.func206, Tryz.ntmps206
   go_wp2
   go_ret
   exact ⟨rfl, by repeat (first | exact Below.refl _ _ | apply Below.drew | refine Below.alloc ?_ (by simp; try omega) _)⟩
 . go_enter Tryz.func206, Tryz.ntmps206
   go_wp2
   go_ret
   exact ⟨rfl, by repeat (first | exact Below.refl _ _ | apply Below.drew | refine Below.alloc ?_ (by simp; try omega) _)⟩

theorem exact_Check_nought (neg : Bool) (A : Option Addr) (c : Nat) (xs : List Nat) (w : World) (h : Zm w A c xs) (k : Nat) (hk : xs.length = k + 1) (hl : xs.length <= 2048) (h0 : xs[k] = 0) :
  Calls Tryz.prog 206 #[.agg #[.bool neg, .slice A xs.length c]] w fun e w' => e = .returned (.int .i64 1) /\ Below w.heap.size w w' := by
 have h1 := h.cap
 have h2 := h.most
 obtain ⟨ad, rfl, hbl, hcell⟩ := h.reads.get (k := k) (by omega)
 have hbk : (ad.add k).block < w.heap.size := by rw [Z9]; exact hbl
 rw [h0] at hcell
 clear h0
 rw [hk] at h1 hl ⊢
 clear h hk
 go_enter Tryz.func206, Tryz.ntmps206
 go_wp2
 go_ret
 exact ⟨rfl, by repeat (first | exact Below.refl _ _ | apply Below.drew | refine Below.alloc ?_ (by simp; try omega) _)⟩

theorem exact_Check_fine (neg : Bool) (A : Option Addr) (c : Nat) (xs : List Nat) (w : World) (h : Zm w A c xs) (k : Nat) (hk : xs.length = k + 1) (hl : xs.length <= 2048) (h0 : xs[k] ≠ 0) :
  Calls Tryz.prog 206 #[.agg #[.bool neg, .slice A xs.length c]] w fun e w' => e = .returned (.int .i64 0) /\ Below w.heap.size w w' := by
 have h1 := h.cap
 have h2 := h.most
 obtain ⟨ad, rfl, hbl, hcell⟩ := h.reads.get (k := k) (by omega)
 have hbk : (ad.add k).block < w.heap.size := by rw [Z9]; exact hbl
 generalize xs[k] = y at hcell h0
 have hb : ((y : Int) == 0) = false := by simp; omega
 clear h0
 rw [hk] at h1 hl ⊢
 clear h hk
 go_enter Tryz.func206, Tryz.ntmps206
 go_wp2
 go_ret
 exact ⟨rfl, by repeat (first | exact Below.refl _ _ | apply Below.drew | refine Below.alloc ?_ (by simp; try omega) _)⟩

theorem Yi (neg : Bool) (A : Option Addr) (c : Nat) (xs : List Nat) (w : World) (h : Zm w A c xs) :
   Calls Tryz.prog 206 #[.agg #[.bool neg, .slice A xs.length c]] w fun e w' => e = .returned (.int .i64 (X7 neg xs)) /\ Below w.heap.size w w' := by
 by_cases hl : xs.length <= 2048
 . rcases Nat.eq_zero_or_pos xs.length with h0 | h0
   . have e : X7 neg xs = if neg then 1 else 0 := by
       obtain rfl := List.eq_nil_of_length_eq_zero h0
       cases neg <;> rfl
     rw [e]
     exact exact_Check_empty neg A c xs w h0
   . obtain ⟨k, hk⟩ : ∃ k, xs.length = k + 1 := ⟨xs.length - 1, by omega⟩
     have hne : xs ≠ [] := by rintro rfl; simp at hk
     by_cases hz : xs[k] = 0
     . have e : X7 neg xs = 1 := by simp [X7, okI, Y5 hk, hz]
       rw [e]
       exact exact_Check_nought neg A c xs w h k hk hl hz
     . have e : X7 neg xs = 0 := by simp [X7, okI, Y5 hk, hz, hl, hne]
       rw [e]
       exact exact_Check_fine neg A c xs w h k hk hl hz
 . have e : X7 neg xs = 1 := by simp [X7, okI, hl]
   rw [e]
   exact exact_Check_long neg A c xs w h (by omega)

theorem ref_Check_long (neg : Bool) (A : Option Addr) (c : Nat) (xs : List Nat) (w : World) (h : Zm w A c xs) (hl : 2048 < xs.length) :
  Calls Tryz.prog 224 #[.agg #[.bool neg, .slice A xs.length c]] w fun e w' => e = .returned (.int .i64 1) /\ Below w.heap.size w w' := by
 have h1 := h.cap
 have h2 := h.most
 clear h
 have hl2 : (2048 : Int) < (xs.length : Int) := by omega
 generalize xs.length = n at *
 go_enter Tryz.func224, Tryz.ntmps224
 go_wp2
 go_ret
 exact ⟨rfl, by repeat (first | exact Below.refl _ _ | apply Below.drew | refine Below.alloc ?_ (by simp; try omega) _)⟩

theorem ref_Check_empty (neg : Bool) (A : Option Addr) (c : Nat) (xs : List Nat) (w : World) (hl : xs.length = 0) :
   Calls Tryz.prog 224 #[.agg #[.bool neg, .slice A xs.length c]] w fun e w' => e = .returned (.int .i64 (if neg then 1 else 0)) /\ Below w.heap.size w w' := by
 rw [hl]
 clear hl
 cases neg
 . go_enter Tryz.func224, Tryz.ntmps224
   go_wp2
   go_ret
   exact ⟨rfl, by repeat (first | exact Below.refl _ _ | apply Below.drew | refine Below.alloc ?_ (by simp; try omega) _)⟩
 . go_enter Tryz.func224, Tryz.ntmps224
   go_wp2
   go_ret
   exact ⟨rfl, by repeat (first | exact Below.refl _ _ | apply Below.drew | refine Below.alloc ?_ (by simp; try omega) _)⟩

theorem ref_Check_nought (neg : Bool) (A : Option Addr) (c : Nat) (xs : List Nat) (w : World) (h : Zm w A c xs) (k : Nat) (hk : xs.length = k + 1) (hl : xs.length <= 2048) (h0 : xs[k] = 0) :
  Calls Tryz.prog 224 #[.agg #[.bool neg, .slice A xs.length c]] w fun e w' => e = .returned (.int .i64 1) /\ Below w.heap.size w w' := by
 have h1 := h.cap
 have h2 := h.most
 obtain ⟨ad, rfl, hbl, hcell⟩ := h.reads.get (k := k) (by omega)
 have hbk : (ad.add k).block < w.heap.size := by rw [Z9]; exact hbl
 rw [h0] at hcell
 clear h0
 rw [hk] at h1 hl ⊢
 clear h hk
 go_enter Tryz.func224, Tryz.ntmps224
 go_wp2
 go_ret
 exact ⟨rfl, by repeat (first | exact Below.refl _ _ | apply Below.drew | refine Below.alloc ?_ (by simp; try omega) _)⟩

theorem ref_Check_fine (neg : Bool) (A : Option Addr) (c : Nat) (xs : List Nat) (w : World) (h : Zm w A c xs) (k : Nat) (hk : xs.length = k + 1) (hl : xs.length <= 2048) (h0 : xs[k] ≠ 0) :
  Calls Tryz.prog 224 #[.agg #[.bool neg, .slice A xs.length c]] w fun e w' => e = .returned (.int .i64 0) /\ Below w.heap.size w w' := by
 have h1 := h.cap
 have h2 := h.most
 obtain ⟨ad, rfl, hbl, hcell⟩ := h.reads.get (k := k) (by omega)
 have hbk : (ad.add k).block < w.heap.size := by rw [Z9]; exact hbl
 generalize xs[k] = y at hcell h0
 have hb : ((y : Int) == 0) = false := by simp; omega
 clear h0
 rw [hk] at h1 hl ⊢
 clear h hk
 go_enter Tryz.func224, Tryz.ntmps224
 go_wp2
 go_ret
 exact ⟨rfl, by repeat (first | exact Below.refl _ _ | apply Below.drew | refine Below.alloc ?_ (by simp; try omega) _)⟩

theorem YA (neg : Bool) (A : Option Addr) (c : Nat) (xs : List Nat) (w : World) (h : Zm w A c xs) :
   Calls Tryz.prog 224 #[.agg #[.bool neg, .slice A xs.length c]] w fun e w' => e = .returned (.int .i64 (X7 neg xs)) /\ Below w.heap.size w w' := by
 by_cases hl : xs.length <= 2048
 . rcases Nat.eq_zero_or_pos xs.length with h0 | h0
   . have e : X7 neg xs = if neg then 1 else 0 := by
       obtain rfl := List.eq_nil_of_length_eq_zero h0
       cases neg <;> rfl
     rw [e]
     exact ref_Check_empty neg A c xs w h0
   . obtain ⟨k, hk⟩ : ∃ k, xs.length = k + 1 := ⟨xs.length - 1, by omega⟩
     have hne : xs ≠ [] := by rintro rfl; simp at hk
     by_cases hz : xs[k] = 0
     . have e : X7 neg xs = 1 := by simp [X7, okI, Y5 hk, hz]
       rw [e]
       exact ref_Check_nought neg A c xs w h k hk hl hz
     . have e : X7 neg xs = 0 := by simp [X7, okI, Y5 hk, hz, hl, hne]
       rw [e]
       exact ref_Check_fine neg A c xs w h k hk hl hz
 . have e : X7 neg xs = 1 := by simp [X7, okI, hl]
   rw [e]
   exact ref_Check_long neg A c xs w h (by omega)

def sgnI (neg : Bool) (xs : List Nat) : Int := if xs.length = 0 then 0 else if neg then -1 else 1
def Xs (xs : List Nat) : Nat := if xs.length = 0 then 0 else 32 * (xs.length - 1) + Lib.bitLen (xs.getLast?.getD 0)


theorem YO (neg : Bool) (A : Option Addr) (c : Nat) (xs : List Nat) (w : World) (h : Zm w A c xs) :
   Calls Tryz.prog 93 #[.agg #[.bool neg, .slice A xs.length c]] w fun e w' => e = .returned (.int .i64 (sgnI neg xs)) /\ Below w.heap.size w w' := by
 have h1 := h.cap
 have h2 := h.most
 clear h
 unfold sgnI
 generalize xs.length = n at *
 by_cases h0 : n = 0
 . subst h0
   rw [if_pos rfl]
   go_enter Tryz.func93, Tryz.ntmps93
   go_wp2
   go_ret
   exact ⟨rfl, by repeat (first | exact Below.refl _ _ | apply Below.drew | refine Below.alloc ?_ (by simp; try omega) _)⟩
 . rw [if_neg h0]
   have hb : ((n : Int) == 0) = false := by simp; omega
   clear h0
   cases neg
   . rw [if_neg (by simp)]
     go_enter Tryz.func93, Tryz.ntmps93
     go_wp2
     go_ret
     exact ⟨rfl, by repeat (first | exact Below.refl _ _ | apply Below.drew | refine Below.alloc ?_ (by simp; try omega) _)⟩
   . rw [if_pos rfl]
     go_enter Tryz.func93, Tryz.ntmps93
     go_wp2
     go_ret
     exact ⟨rfl, by repeat (first | exact Below.refl _ _ | apply Below.drew | refine Below.alloc ?_ (by simp; try omega) _)⟩


theorem Xa (neg : Bool) (A : Option Addr) (c : Nat) (xs : List Nat) (w : World) (h : Zm w A c xs) :
   Calls Tryz.prog 185 #[.agg #[.bool neg, .slice A xs.length c]] w fun e w' => e = .returned (.int .i64 (sgnI neg xs)) /\ Below w.heap.size w w' := by
 have h1 := h.cap
 have h2 := h.most
 clear h
 unfold sgnI
 generalize xs.length = n at *
 by_cases h0 : n = 0
 . subst h0
   rw [if_pos rfl]
   go_enter Tryz.func185, Tryz.ntmps185
   go_wp2
   go_ret
   exact ⟨rfl, by repeat (first | exact Below.refl _ _ | apply Below.drew | refine Below.alloc ?_ (by simp; try omega) _)⟩
 . rw [if_neg h0]
   have hb : ((n : Int) == 0) = false := by simp; omega
   clear h0
   cases neg
   . rw [if_neg (by simp)]
     go_enter Tryz.func185, Tryz.ntmps185
     go_wp2
     go_ret
     exact ⟨rfl, by repeat (first | exact Below.refl _ _ | apply Below.drew | refine Below.alloc ?_ (by simp; try omega) _)⟩
   . rw [if_pos rfl]
     go_enter Tryz.func185, Tryz.ntmps185
     go_wp2
     go_ret
     exact ⟨rfl, by repeat (first | exact Below.refl _ _ | apply Below.drew | refine Below.alloc ?_ (by simp; try omega) _)⟩


theorem YC : (Tryz.prog.info? 109).map (fun i => (i.zero, i.size, i.bytes)) = some (some (.int .u32 0), 1, 4) := by kernel_rfl

theorem Xo (A : Option Addr) (c : Nat) (xs : List Nat) (hx : Zj xs) (hc : xs.length <= c) (hm : c <= 9223372036854775807) (B : Nat) (w : World) (hr : Jg w B A xs) :
  Calls Tryz.prog 228 #[.slice A xs.length c] w fun e w' => e = .returned (.slice A (Za (val xs)).length c) /\ w = w' := by
 have HR := Hd hr
 have HX := Hd hx
 clear hr hx
 go_enter Tryz.func228, Tryz.ntmps228
 go_wp2_with fail
 go_loop [0] (fun v => ∃ k : Nat, v = .slice A k c /\ k <= xs.length /\ Za (val (xs.take k)) = Za (val xs)) (fun v => lenOf v)
 case atStart => exact ⟨xs.length, rfl, Nat.le_refl _, by rw [List.take_length]⟩
 case round =>
  obtain ⟨k, rfl, hk, hv⟩ := hrel
  have HV := Hd hv
  clear hv
  cases k with
  | zero =>
   go_wp2_with fail
   go_ret
   exact ⟨by rw [<- HV.out]; rfl, rfl⟩
  | succ k =>
   obtain ⟨ad, rfl, -, hcell⟩ := HR.out.get (k := k) (by omega)
   by_cases h0 : xs[k] = 0
   . have HZ := Hd h0
     rw [h0] at hcell
     clear h0
     go_wp2_with fail
     go_round
     case rel => exact ⟨k, rfl, by omega, by rw [<- Jb (by omega) HZ.out]; exact HV.out⟩
     case measure => simp [lenOf]
   . have hb : ((xs[k] : Int) == 0) = false := by simp; omega
     have HZ := Hd h0
     clear h0
     go_wp2_with fail
     go_ret
     refine ⟨?_, rfl⟩
     have e := HV.out
     rw [YU (YG HX.out _) (canon_of_get (by omega) HZ.out)] at e
     rw [<- e, List.length_take, Nat.min_eq_left hk]; rfl
theorem XX (neg : Bool) (A : Option Addr) (c : Nat) (xs : List Nat) (w : World) (h : Zm w A c xs) (hv : val xs = 0) :
  Calls Tryz.prog 231 #[.bool neg, .slice A xs.length c] w fun e w' => e = .returned (.agg #[.bool false, .slice none 0 0]) /\ Below w.heap.size w w' := by
 have C := Xo A c xs h.limbs h.cap h.most (w.heap.size) (w.alloc (.cells #[.bool false, .slice none 0 0] 24)) (h.reads.alloc (Nat.le_refl _) _)
 rw [hv, Z8, List.length_nil] at C
 have HC := Hd C
 clear C hv
 go_enter Tryz.func231, Tryz.ntmps231
 go_wp2_with (first | (go_at_call 228; with_reducible refine HC.out.mono ?_; rintro e w' ⟨rfl, rfl⟩))
 exact bodyPost_ret (by simp [results, Tryz.results231, go_sem]) rfl ⟨rfl, by repeat (first | exact Below.refl _ _ | apply Below.drew | refine Below.alloc ?_ (by simp; try omega) _)⟩

theorem Xg (neg : Bool) (A : Option Addr) (c : Nat) (xs : List Nat) (w : World) (h : Zm w A c xs) (hv : val xs ≠ 0) :
  Calls Tryz.prog 231 #[.bool neg, .slice A xs.length c] w fun e w' => e = .returned (.agg #[.bool neg, .slice A (Za (val xs)).length c]) /\ Below w.heap.size w w' := by
 have C := Xo A c xs h.limbs h.cap h.most (w.heap.size) (w.alloc (.cells #[.bool false, .slice none 0 0] 24)) (h.reads.alloc (Nat.le_refl _) _)
 have hne : (Za (val xs)).length ≠ 0 := fun h0 => hv (Ym.1 (List.eq_nil_of_length_eq_zero h0))
 have hle := YB h.limbs
 have h1 := h.cap
 have h2 := h.most
 have HC := Hd C
 clear C hv h
 generalize (Za (val xs)).length = n at *
 have hb : ((n : Int) == 0) = false := by simp; omega
 go_enter Tryz.func231, Tryz.ntmps231
 go_wp2_with (first | (go_at_call 228; with_reducible refine HC.out.mono ?_; rintro e w' ⟨rfl, rfl⟩))
 exact bodyPost_ret (by simp [results, Tryz.results231, go_sem]) rfl ⟨rfl, by repeat (first | exact Below.refl _ _ | apply Below.drew | refine Below.alloc ?_ (by simp; try omega) _)⟩

theorem ref_Of_nought (w : World) :
  Calls Tryz.prog 190 #[.int .i64 0] w (ZY w.heap.size w 0) := by
 have C := XX false (some ⟨w.heap.size + 1, 0, none⟩) 2 [0, 0] _ (raw_two1 w (.cells #[.bool false, .slice none 0 0] 24) 109 0 0 (by omega) (by omega)) (by rfl)
 have HC := Hd C
 clear C
 go_enter Tryz.func190, Tryz.ntmps190
 go_wp2_with fail
 refine HC.out.mono ?_
 rintro e w1 ⟨rfl, hb⟩
 have hp := ((Zr.new w 24 (.bool false) (.slice none 0 0)).alloc _).below hb
 have hb1 : Below w.heap.size w w1 := (((Below.refl _ _).alloc (Nat.le_refl _) _).alloc (by simp) _).trans (hb.mono (by simp; omega))
 obtain ⟨hl, c0, c1, f0, f1⟩ := hp.facts
 clear hb HC
 go_wp2_with fail
 have hq := hp.store (.bool false) (.slice none 0 0)
 obtain ⟨_, k0, k1, _, _⟩ := hq.facts
 exact bodyPost_ret (by simp [results, Tryz.results190, go_sem, k0, k1]) rfl ⟨_, rfl, Zc.nought _ _, ZW hb1 (Nat.le_refl _) _ _⟩

theorem ref_Of_more (m : Nat) (neg : Bool) (n : Int) (hm0 : m ≠ 0) (hm : m <= 9223372036854775808) (hm2 : neg = false -> m <= 9223372036854775807) (hn : n = if neg then -(m : Int) else m) (w : World) :
   Calls Tryz.prog 190 #[.int .i64 n] w (ZY w.heap.size w n) := by
 obtain ⟨l1, l2, l3⟩ := two_limbs m (by omega)
 have C := Xg neg (some ⟨w.heap.size + 1, 0, none⟩) 2 [m % 4294967296, m / 4294967296] _ (raw_two1 w (.cells #[.bool false, .slice none 0 0] 24) 109 _ _ l1 l2) (by rw [l3]; exact hm0)
 have hown := own_two1 w (.cells #[.bool false, .slice none 0 0] 24) (m % 4294967296) (m / 4294967296)
 have fin : ∀ w1, Below ((w.alloc (.cells #[.bool false, .slice none 0 0] 24)).alloc (.cells #[.int .u32 (m % 4294967296 : Nat), .int .u32 (m / 4294967296 : Nat)] 109)).heap.size ((w.alloc (.cells #[.bool false, .slice none 0 0] 24)).alloc (.cells #[.int .u32 (m % 4294967296 : Nat), .int .u32 (m / 4294967296 : Nat)] 109)) w1 ->
    Zc w1 (w.heap.size + 1) (.agg #[.bool neg, .slice (some ⟨w.heap.size + 1, 0, none⟩) (Za (val [m % 4294967296, m / 4294967296])).length 2]) n := by
   intro w1 hb
   exact Zc.signed (by simp [Zj]; omega) (Zt hown hb) (by simp) (by simp) (by rw [l3]; exact hn) (by rw [l3]; exact hm0)
 rw [l3] at C fin
 have HC := Hd C
 have HF := Hd fin
 clear C fin hown l1 l2 l3
 have hq1 : ((m : Int) % 4294967296) = ((m % 4294967296 : Nat) : Int) := by omega
 have hq2 : ((m : Int) / 4294967296) = ((m / 4294967296 : Nat) : Int) := by omega
 have HQ1 := Hd hq1
 have HQ2 := Hd hq2
 clear hq1 hq2
 cases neg
 . have h2 := hm2 rfl
   simp only [Bool.false_eq_true, if_false] at hn
   subst hn
   have hlt : ¬ (m : Int) < 0 := by omega
   go_enter Tryz.func190, Tryz.ntmps190
   go_wp2_with fail
   rw [HQ1.out, HQ2.out]
   refine HC.out.mono ?_
   rintro e w1 ⟨rfl, hb⟩
   have hI := HF.out w1 hb
   have hp := ((Zr.new w 24 (.bool false) (.slice none 0 0)).alloc _).below hb
   have hb1 : Below w.heap.size w w1 := (((Below.refl _ _).alloc (Nat.le_refl _) _).alloc (by simp) _).trans (hb.mono (by simp; omega))
   obtain ⟨hl, c0, c1, f0, f1⟩ := hp.facts
   clear hb HC HF
   go_wp2_with fail
   have hq := hp.store (.bool false) (.slice (some ⟨w.heap.size + 1, 0, none⟩) (Za m).length 2)
   obtain ⟨_, k0, k1, _, _⟩ := hq.facts
   exact bodyPost_ret (by simp [results, Tryz.results190, go_sem, k0, k1]) rfl ⟨_, rfl, (hI.pair (Nat.lt_succ_self _)).base (Nat.le_succ _), ZW hb1 (Nat.le_refl _) _ _⟩
 . simp only [if_true] at hn
   have he : IntKind.u64.wrap (-IntKind.u64.wrap n) = (m : Int) := by rw [IntKind.wrap_u64, IntKind.wrap_u64]; omega
   have hlt : n < 0 := by omega
   have HN := Hd hn
   clear hn
   go_enter Tryz.func190, Tryz.ntmps190
   go_wp2_with fail
   rw [HQ1.out, HQ2.out]
   refine HC.out.mono ?_
   rintro e w1 ⟨rfl, hb⟩
   have hI := HF.out w1 hb
   have hp := ((Zr.new w 24 (.bool false) (.slice none 0 0)).alloc _).below hb
   have hb1 : Below w.heap.size w w1 := (((Below.refl _ _).alloc (Nat.le_refl _) _).alloc (by simp) _).trans (hb.mono (by simp; omega))
   obtain ⟨hl, c0, c1, f0, f1⟩ := hp.facts
   clear hb HC HF
   go_wp2_with fail
   have hq := hp.store (.bool true) (.slice (some ⟨w.heap.size + 1, 0, none⟩) (Za m).length 2)
   obtain ⟨_, k0, k1, _, _⟩ := hq.facts
   exact bodyPost_ret (by simp [results, Tryz.results190, go_sem, k0, k1]) rfl ⟨_, rfl, (hI.pair (Nat.lt_succ_self _)).base (Nat.le_succ _), ZW hb1 (Nat.le_refl _) _ _⟩

theorem ref_Of (n : Int) (h1 : -9223372036854775808 <= n) (h2 : n <= 9223372036854775807) (w : World) :
   Calls Tryz.prog 190 #[.int .i64 n] w (ZY w.heap.size w n) := by
 by_cases h0 : n = 0
 . subst h0; exact ref_Of_nought w
 . refine ref_Of_more n.natAbs (decide (n < 0)) n (by omega) (by omega) ?_ ?_ w
   . intro h; simp at h; omega
   . split
     . rename_i h; simp at h; omega
     . rename_i h; simp at h; omega


abbrev BB : Nat := 4294967296

theorem XH (xs : List Nat) (d : Nat) : val (xs ++ [d]) = val xs + 4294967296 ^ xs.length * d := by
 rw [YK]; simp [val]
theorem Zx {xs : List Nat} {k : Nat} (h : k < xs.length) : val (xs.take (k + 1)) = val (xs.take k) + 4294967296 ^ k * xs[k] := by
 rw [List.take_succ_eq_append_getElem h, XH, List.length_take, Nat.min_eq_left (by omega)]
theorem Z4 {xs : List Nat} {k : Nat} (h : xs.length <= k) : val (xs.take k) = val xs := by
 rw [List.take_of_length_le h]
theorem val_noughts (n : Nat) : val (List.replicate n 0) = 0 := by
 induction n with
 | zero => rfl
 | succ n ih => simp [List.replicate_succ, val, ih]
theorem Yr (n : Nat) : Zj (List.replicate n 0) := by
 intro x hx
 have := (List.mem_replicate.1 hx).2
 omega
theorem val_part (xs : List Nat) (k : Nat) (h : k <= xs.length) : val xs = val (xs.take k) + 4294967296 ^ k * val (xs.drop k) := by
 conv => lhs; rw [<- List.take_append_drop k xs]
 rw [YK, List.length_take, Nat.min_eq_left h]
theorem Yz {xs : List Nat} {k : Nat} (h : k < xs.length) : val (xs.drop k) = xs[k] + 4294967296 * val (xs.drop (k + 1)) := by
 rw [List.drop_eq_getElem_cons h, val]
theorem val_set {xs : List Nat} {k d : Nat} (h : k < xs.length) : val (xs.set k d) + 4294967296 ^ k * xs[k] = val xs + 4294967296 ^ k * d := by
 induction xs generalizing k with
 | nil => simp at h
 | cons x xs ih =>
  cases k with
  | zero => simp [val]; omega
  | succ k =>
   have hk : k < xs.length := by simpa using h
   have := ih hk
   simp only [List.set_cons_succ, val, List.getElem_cons_succ, Nat.pow_succ]
   have e1 : 4294967296 ^ k * 4294967296 * xs[k] = 4294967296 * (4294967296 ^ k * xs[k]) := by grind
   have e2 : 4294967296 ^ k * 4294967296 * d = 4294967296 * (4294967296 ^ k * d) := by grind
   rw [e1, e2]
   omega
theorem Yn {xs : List Nat} (h : Zj xs) {k d : Nat} (hd : d < 4294967296) : Zj (xs.set k d) := by
 intro x hx
 rcases List.mem_or_eq_of_mem_set hx with hx | rfl
 . exact h x hx
 . exact hd
theorem Xp {xs : List Nat} (h : Zj xs) {d : Nat} (hd : d < 4294967296) : Zj (xs ++ [d]) :=
 Yh.2 ⟨h, fun x hx => by simp at hx; omega⟩

def JU (xs : List Nat) (k : Nat) : Nat := xs.getD k 0
theorem Yk {xs : List Nat} {k : Nat} (h : k < xs.length) : JU xs k = xs[k] := by simp [JU, h]
theorem Je {xs : List Nat} {k : Nat} (h : xs.length <= k) : JU xs k = 0 := by simp [JU, h]
theorem JQ {xs : List Nat} (hx : Zj xs) (k : Nat) : JU xs k < 4294967296 := by
 rcases Nat.lt_or_ge k xs.length with h | h
 . rw [Yk h]; exact Zs hx h
 . rw [Je h]; omega
theorem Xu (xs : List Nat) (k : Nat) : val (xs.take (k + 1)) = val (xs.take k) + 4294967296 ^ k * JU xs k := by
 rcases Nat.lt_or_ge k xs.length with h | h
 . rw [Zx h, Yk h]
 . rw [List.take_of_length_le (by omega), List.take_of_length_le h, Je h]; simp

theorem add_step {zs : List Nat} {k c v : Nat} (hk : zs.length = k) (s : Nat) (h : val zs + 4294967296 ^ k * c = v) (x : Nat) (hs : s = x + c) :
  val (zs ++ [s % 4294967296]) + 4294967296 ^ (k + 1) * (s / 4294967296) = v + 4294967296 ^ k * x := by
 subst hk hs
 rw [XH, <- h, Nat.pow_succ]
 generalize 4294967296 ^ zs.length = P
 have e : P * 4294967296 * ((x + c) / 4294967296) + P * ((x + c) % 4294967296) = P * (x + c) := by
  rw [Nat.mul_assoc, <- Nat.mul_add, Nat.div_add_mod]
 rw [Nat.mul_add] at e
 omega
theorem sub_step {zs : List Nat} {k b va vb : Nat} (hk : zs.length = k) (h : val zs + vb = va + 4294967296 ^ k * b) (x y d b' : Nat) (hd : d + y + b = x + 4294967296 * b') :
  val (zs ++ [d]) + (vb + 4294967296 ^ k * y) = va + 4294967296 ^ k * x + 4294967296 ^ (k + 1) * b' := by
 subst hk
 rw [XH, Nat.pow_succ]
 generalize 4294967296 ^ zs.length = P at *
 have e : P * (d + y + b) = P * (x + 4294967296 * b') := by rw [hd]
 simp only [Nat.mul_add] at e
 rw [<- Nat.mul_assoc] at e
 omega
theorem at0_set_ne {zs : List Nat} {m k d : Nat} (h : k ≠ m) : JU (zs.set m d) k = JU zs k := by
 simp only [JU, List.getD_eq_getElem?_getD]
 rw [List.getElem?_set_ne (by omega)]
theorem at0_noughts (n k : Nat) : JU (List.replicate n 0) k = 0 := by
 simp only [JU, List.getD_eq_getElem?_getD, List.getElem?_replicate]
 split <;> rfl
theorem mul_step {zs : List Nat} {m c V : Nat} (hm : m < zs.length) (h : val zs + 4294967296 ^ m * c = V) (p t : Nat) (ht : t = c + p + zs[m]) :
  val (zs.set m (t % 4294967296)) + 4294967296 ^ (m + 1) * (t / 4294967296) = V + 4294967296 ^ m * p := by
 have e := val_set (xs := zs) (k := m) (d := t % 4294967296) hm
 rw [Nat.pow_succ]
 generalize 4294967296 ^ m = P at *
 have e2 : P * 4294967296 * (t / 4294967296) + P * (t % 4294967296) = P * t := by
  rw [Nat.mul_assoc, <- Nat.mul_add, Nat.div_add_mod]
 have e3 : P * t = P * c + P * p + P * zs[m] := by rw [ht, Nat.mul_add, Nat.mul_add]
 omega
theorem mul_last {zs : List Nat} {m c V : Nat} (hm : m < zs.length) (h : val zs + 4294967296 ^ m * c = V) (h0 : zs[m] = 0) : val (zs.set m c) = V := by
 have e := val_set (xs := zs) (k := m) (d := c) hm
 rw [h0] at e
 omega
theorem mul_bound {u v o c : Nat} (hu : u < 4294967296) (hv : v < 4294967296) (ho : o < 4294967296) (hc : c < 4294967296) : c + u * v + o < 18446744073709551616 /\ (c + u * v + o) / 4294967296 < 4294967296 := by
 have h : u * v <= 4294967295 * 4294967295 := Nat.mul_le_mul (by omega) (by omega)
 omega

theorem Xw (a b : Nat) (ha : a < 4294967296) (hb : b < 4294967296) :
  bits .and .u32 a b = ((a &&& b : Nat) : Int) /\ bits .or .u32 a b = ((a ||| b : Nat) : Int) /\ bits .xor .u32 a b = ((a ^^^ b : Nat) : Int) := by
 have h := bits_nat .u32 32 (by decide) (fun n h0 h1 => by rw [IntKind.wrap_u32]; omega) a b ha hb
 refine ⟨h.1, h.2, ?_⟩
 have ha' : a % 2 ^ IntKind.u32.bits = a := Nat.mod_eq_of_lt ha
 have hb' : b % 2 ^ IntKind.u32.bits = b := Nat.mod_eq_of_lt hb
 simp only [bits, BitVec.ofInt_natCast, BitVec.toNat_xor, BitVec.toNat_ofNat, ha', hb']
 rw [IntKind.wrap_u32]
 have : a ^^^ b < 2 ^ 32 := Nat.xor_lt_two_pow ha hb
 omega
theorem borrow_top (X Y D : Nat) (hX : X <= 1) (hY : Y <= 1) (hD : D <= 1) : (((1 ^^^ X) &&& Y) ||| ((1 ^^^ (X ^^^ Y)) &&& D)) = if X < Y ∨ (X = Y /\ D = 1) then 1 else 0 := by
 rcases (by omega : X = 0 ∨ X = 1) with rfl | rfl <;> rcases (by omega : Y = 0 ∨ Y = 1) with rfl | rfl <;> rcases (by omega : D = 0 ∨ D = 1) with rfl | rfl <;> decide
theorem borrow_law (x y b d : Nat) (hx : x < 4294967296) (hy : y < 4294967296) (hb : b <= 1) (hd : d = (x + 4294967296 - y - b) % 4294967296) :
   (((4294967295 ^^^ x) &&& y) ||| ((4294967295 ^^^ (x ^^^ y)) &&& d)) / 2147483648 = if x < y + b then 1 else 0 := by
 rw [show 2147483648 = 2 ^ 31 by decide, <- Nat.shiftRight_eq_div_pow, Nat.shiftRight_or_distrib, Nat.shiftRight_and_distrib, Nat.shiftRight_and_distrib, Nat.shiftRight_xor_distrib, Nat.shiftRight_xor_distrib, Nat.shiftRight_xor_distrib, show 4294967295 >>> 31 = 1 by decide]
 simp only [Nat.shiftRight_eq_div_pow]
 rw [borrow_top _ _ _ (by omega) (by omega) (by omega)]
 by_cases h : x < y + b
 . rw [if_pos h, if_pos (by omega)]
 . rw [if_neg h, if_neg (by omega)]

theorem two_eq {a b c d : Int} (h1 : a = c) (h2 : b = d) : Ending.returned (.tuple #[.int .u32 a, .int .u32 b]) = .returned (.tuple #[.int .u32 c, .int .u32 d]) := by
 subst h1 h2; rfl

theorem bits_Add32 (x y c : Nat) (hx : x < 4294967296) (hy : y < 4294967296) (hc : c <= 1) (w : World) :
  Calls Tryz.prog 255 #[.int .u32 x, .int .u32 y, .int .u32 c] w fun e w' => e = .returned (.tuple #[.int .u32 ((x + y + c) % 4294967296 : Nat), .int .u32 ((x + y + c) / 4294967296 : Nat)]) /\ w = w' := by
 go_enter Tryz.func255, Tryz.ntmps255
 go_wp2
 go_ret2
 exact ⟨two_eq (by omega) (by omega), rfl⟩

theorem bits_Sub32_core (x y b : Nat) (hx : x < 4294967296) (hy : y < 4294967296) (hb : b <= 1) (d q : Nat) (hd : Hid (d = (x + 4294967296 - y - b) % 4294967296)) (hq : Hid (q = if x < y + b then 1 else 0)) (w : World) :
  Calls Tryz.prog 284 #[.int .u32 x, .int .u32 y, .int .u32 b] w fun e w' => e = .returned (.tuple #[.int .u32 d, .int .u32 q]) /\ w = w' := by
 have hm : IntKind.u32.max = 4294967295 := rfl
 go_enter Tryz.func284, Tryz.ntmps284
 go_wp2
 go_ret2
 have e : ((x : Int) - (y : Int) - (b : Int)) % 4294967296 = (d : Int) := by rw [hd.out]; omega
 refine ⟨two_eq e ?_, rfl⟩
 rw [e]
 have hd2 : d < 4294967296 := by have := hd.out; omega
 have h1 : 4294967295 ^^^ x < 4294967296 := Nat.xor_lt_two_pow (n := 32) (by omega) hx
 have h2 : x ^^^ y < 4294967296 := Nat.xor_lt_two_pow (n := 32) hx hy
 have h3 : 4294967295 ^^^ (x ^^^ y) < 4294967296 := Nat.xor_lt_two_pow (n := 32) (by omega) h2
 have e1 := (Xw 4294967295 x (by omega) hx).2.2
 have e2 := (Xw x y hx hy).2.2
 have e3 := (Xw 4294967295 (x ^^^ y) (by omega) h2).2.2
 have e4 := (Xw _ y h1 hy).1
 have e5 := (Xw _ d h3 hd2).1
 have e6 := (Xw _ _ (Nat.and_lt_two_pow (n := 32) (4294967295 ^^^ x) hy) (Nat.and_lt_two_pow (n := 32) (4294967295 ^^^ (x ^^^ y)) hd2)).2.1
 have e0 : ((4294967295 : Nat) : Int) = 4294967295 := rfl
 rw [e0] at e1 e3
 rw [e1, e2, e3, e4, e5, e6, hq.out, <- borrow_law x y b d hx hy hb hd.out]
 omega
theorem bits_Sub32 (x y b : Nat) (hx : x < 4294967296) (hy : y < 4294967296) (hb : b <= 1) (w : World) :
  Calls Tryz.prog 284 #[.int .u32 x, .int .u32 y, .int .u32 b] w fun e w' => e = .returned (.tuple #[.int .u32 ((x + 4294967296 - y - b) % 4294967296 : Nat), .int .u32 (if x < y + b then 1 else 0 : Nat)]) /\ w = w' :=
 bits_Sub32_core x y b hx hy hb _ _ (Hd rfl) (Hd rfl) w
theorem bits_Add32_0 (x c : Nat) (hx : x < 4294967296) (hc : c <= 1) (w : World) :
  Calls Tryz.prog 255 #[.int .u32 x, .int .u32 0, .int .u32 c] w fun e w' => e = .returned (.tuple #[.int .u32 ((x + 0 + c) % 4294967296 : Nat), .int .u32 ((x + 0 + c) / 4294967296 : Nat)]) /\ w = w' :=
 bits_Add32 x 0 c hx (by omega) hc w
theorem bits_Sub32_0 (x b : Nat) (hx : x < 4294967296) (hb : b <= 1) (w : World) :
  Calls Tryz.prog 284 #[.int .u32 x, .int .u32 0, .int .u32 b] w fun e w' => e = .returned (.tuple #[.int .u32 ((x + 4294967296 - 0 - b) % 4294967296 : Nat), .int .u32 (if x < 0 + b then 1 else 0 : Nat)]) /\ w = w' :=
 bits_Sub32 x 0 b hx (by omega) hb w
end Go.Proofs.YtdonecnhdkjniaaGreatDoor
