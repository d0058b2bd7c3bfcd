/- Several texts in one: Of, Bits, Check, Sign, RefOf. -/
import Derived.Test.YtmcnmoljliggfaaGreatDoorBt01
import Derived.Lib.BitFns
import Derived.WalkSmall
import Derived.Deep.RegionHeld3
import Derived.IntWalk
import Derived.Deep.QuietTactic
import Derived.BigQuiet
set_option maxRecDepth 100000
set_option maxHeartbeats 8000000
/- Of, Check, Sign, Bits of package exact and of package whole, over numbers of 64 bits and over whatever limbs come in. -/
namespace Go.Proofs.YtmcnmoljliggfaaGreatDoor
open Go.RowKit

theorem val_two (a b : Nat) : val [a, b] = a + 4294967296 * b := by simp [val]
theorem raw_two (w : World) (t : TypeId) (a b : Nat) (ha : a < 4294967296) (hb : b < 4294967296) : Raw (w.alloc (.cells #[.int .u32 a, .int .u32 b] t)) (some ⟨w.heap.size, 0, none⟩) 2 [a, b] := by
  refine ⟨by simp [Limbs]; omega, by simp, by omega, rfl, fun _ => ⟨_, rfl, by simp, ?_⟩⟩
  exact World.news_of_block (heap_alloc_new w _)
theorem own_two (w : World) (base : Nat) (hbase : base ≤ w.heap.size) (a b : Nat) : (w.alloc (.cells #[.int .u32 a, .int .u32 b] 109)).ownsRow base 109 1 (.slice (some ⟨w.heap.size, 0, none⟩) 2 2) 2 (cellsU [a, b]) :=
  ⟨rfl, .inr ⟨w.heap.size, 2, #[.int .u32 a, .int .u32 b], rfl, hbase, heap_alloc_new w _, by omega, by unfold maxLen; omega, rfl, rfl⟩⟩

theorem raw_two1 (w : World) (o : Obj) (t : TypeId) (a b : Nat) (ha : a < 4294967296) (hb : b < 4294967296) : Raw ((w.alloc o).alloc (.cells #[.int .u32 a, .int .u32 b] t)) (some ⟨w.heap.size + 1, 0, none⟩) [a, b].length [a, b] := by
  have h := raw_two (w.alloc o) t a b ha hb
  simpa using h
theorem own_two1 (w : World) (o : Obj) (a b : Nat) : ((w.alloc o).alloc (.cells #[.int .u32 a, .int .u32 b] 109)).ownsRow (w.heap.size + 1) 109 1 (.slice (some ⟨w.heap.size + 1, 0, none⟩) [a, b].length [a, b].length) [a, b].length (cellsU [a, b]) := by
  have h := own_two (w.alloc o) (w.heap.size + 1) (by simp) a b
  simpa using h
theorem two_limbs (m : Nat) (hm : m < 18446744073709551616) : m % 4294967296 < 4294967296 ∧ m / 4294967296 < 4294967296 ∧ val [m % 4294967296, m / 4294967296] = m := by
  rw [val_two]; omega

theorem own_pair {w : World} {g base : Nat} {a b : Value} {e : TypeId} {size n : Nat} {v : Value} {xs : List Value} (h : w.ownsRow base e size v n xs) (hne : v.ownBlock ≠ some g) : ((w.setCell ⟨g, 0, none⟩ a).setCell ⟨g, 1, none⟩ b).ownsRow base e size v n xs := by
  obtain ⟨h1, h2⟩ := h
  refine ⟨h1, ?_⟩
  rcases h2 with h2 | ⟨k, cap, cur, hv, hg, hh, r⟩
  · exact .inl h2
  · have hk : k ≠ g := fun e => hne (by rw [hv, e]; rfl)
    refine .inr ⟨k, cap, cur, hv, hg, ?_, r⟩
    rw [Below.heap_setCell _ _ _ _ hk, Below.heap_setCell _ _ _ _ hk]; exact hh
theorem IntOwn.pair {w : World} {g base : Nat} {a b : Value} {v : Value} {x : Int} (h : IntOwn w base v x) (hne : g < base) : IntOwn ((w.setCell ⟨g, 0, none⟩ a).setCell ⟨g, 1, none⟩ b) base v x := by
  obtain ⟨A, c, h1, h2, h3, h4⟩ := h.form
  refine ⟨A, c, h1, h2, h3, own_pair h4 (fun e => ?_)⟩
  have := (h4.lt g e).1
  omega
theorem IntOwn.base {w : World} {b b' : Nat} {v : Value} {x : Int} (h : IntOwn w b v x) (hb : b' ≤ b) : IntOwn w b' v x := by
  obtain ⟨A, c, h1, h2, h3, h4⟩ := h.form
  refine ⟨A, c, h1, h2, h3, h4.1, ?_⟩
  rcases h4.2 with h5 | ⟨g, cap, cur, k1, k2, k3⟩
  · exact .inl h5
  · exact .inr ⟨g, cap, cur, k1, Nat.le_trans hb k2, k3⟩

def RetInt (base : Nat) (w : World) (x : Int) (e : Ending) (w' : World) : Prop := ∃ v, e = .returned v ∧ IntOwn w' base v x ∧ Below w.heap.size w w'

theorem exact_Of_nought (w : World) :
    Calls Tryz.prog 74 #[.int .i64 0] w (RetInt w.heap.size w 0) := by
  have C := exact_signed_nought false (some ⟨w.heap.size + 1, 0, none⟩) 2 [0, 0] _ (raw_two1 w (.cells #[.bool false, .slice none 0 0] 25) 109 0 0 (by omega) (by omega)) (by rfl)
  have HC := Hd C
  clear C
  go_enter Tryz.func74, Tryz.ntmps74
  go_wp2_with fail
  refine HC.out.mono ?_
  rintro e w1 ⟨rfl, hb⟩
  have hp := ((Pair.new w 25 (.bool false) (.slice none 0 0)).alloc _).below hb
  have hb1 : Below w.heap.size w w1 := (((Below.refl _ _).alloc (Nat.le_refl _) _).alloc (by simp) _).trans (hb.mono (by simp; omega))
  obtain ⟨hl, c0, c1, f0, f1⟩ := hp.facts
  clear hb HC
  go_wp2_with fail
  have hq := hp.store (.bool false) (.slice none 0 0)
  obtain ⟨_, k0, k1, _, _⟩ := hq.facts
  exact bodyPost_ret (by simp [results, Tryz.results74, go_sem, k0, k1]) rfl ⟨_, rfl, IntOwn.nought _ _, below2 hb1 (Nat.le_refl _) _ _⟩

theorem exact_Of_more (m : Nat) (neg : Bool) (n : Int) (hm0 : m ≠ 0) (hm : m ≤ 9223372036854775808) (hm2 : neg = false → m ≤ 9223372036854775807) (hn : n = if neg then -(m : Int) else m) (w : World) :
    Calls Tryz.prog 74 #[.int .i64 n] w (RetInt w.heap.size w n) := by
  obtain ⟨l1, l2, l3⟩ := two_limbs m (by omega)
  have C := exact_signed_more neg (some ⟨w.heap.size + 1, 0, none⟩) 2 [m % 4294967296, m / 4294967296] _ (raw_two1 w (.cells #[.bool false, .slice none 0 0] 25) 109 _ _ l1 l2) (by rw [l3]; exact hm0)
  have hown := own_two1 w (.cells #[.bool false, .slice none 0 0] 25) (m % 4294967296) (m / 4294967296)
  have fin : ∀ w1, Below ((w.alloc (.cells #[.bool false, .slice none 0 0] 25)).alloc (.cells #[.int .u32 (m % 4294967296 : Nat), .int .u32 (m / 4294967296 : Nat)] 109)).heap.size ((w.alloc (.cells #[.bool false, .slice none 0 0] 25)).alloc (.cells #[.int .u32 (m % 4294967296 : Nat), .int .u32 (m / 4294967296 : Nat)] 109)) w1 →
      IntOwn w1 (w.heap.size + 1) (.agg #[.bool neg, .slice (some ⟨w.heap.size + 1, 0, none⟩) (natL (val [m % 4294967296, m / 4294967296])).length 2]) n := by
    intro w1 hb
    exact IntOwn.signed (by simp [Limbs]; omega) (own_below hown hb) (by simp) (by simp) (by rw [l3]; exact hn) (by rw [l3]; exact hm0)
  rw [l3] at C fin
  have HC := Hd C
  have HF := Hd fin
  clear C fin hown l1 l2 l3
  have hq1 : ((m : Int) % 4294967296) = ((m % 4294967296 : Nat) : Int) := by omega
  have hq2 : ((m : Int) / 4294967296) = ((m / 4294967296 : Nat) : Int) := by omega
  have HQ1 := Hd hq1
  have HQ2 := Hd hq2
  clear hq1 hq2
  cases neg
  · have h2 := hm2 rfl
    simp only [Bool.false_eq_true, if_false] at hn
    subst hn
    have hlt : ¬ (m : Int) < 0 := by omega
    go_enter Tryz.func74, Tryz.ntmps74
    go_wp2_with fail
    rw [HQ1.out, HQ2.out]
    refine HC.out.mono ?_
    rintro e w1 ⟨rfl, hb⟩
    have hI := HF.out w1 hb
    have hp := ((Pair.new w 25 (.bool false) (.slice none 0 0)).alloc _).below hb
    have hb1 : Below w.heap.size w w1 := (((Below.refl _ _).alloc (Nat.le_refl _) _).alloc (by simp) _).trans (hb.mono (by simp; omega))
    obtain ⟨hl, c0, c1, f0, f1⟩ := hp.facts
    clear hb HC HF
    go_wp2_with fail
    have hq := hp.store (.bool false) (.slice (some ⟨w.heap.size + 1, 0, none⟩) (natL m).length 2)
    obtain ⟨_, k0, k1, _, _⟩ := hq.facts
    exact bodyPost_ret (by simp [results, Tryz.results74, go_sem, k0, k1]) rfl ⟨_, rfl, (hI.pair (Nat.lt_succ_self _)).base (Nat.le_succ _), below2 hb1 (Nat.le_refl _) _ _⟩
  · simp only [if_true] at hn
    have he : IntKind.u64.wrap (-IntKind.u64.wrap n) = (m : Int) := by rw [IntKind.wrap_u64, IntKind.wrap_u64]; omega
    have hlt : n < 0 := by omega
    have HN := Hd hn
    clear hn
    go_enter Tryz.func74, Tryz.ntmps74
    go_wp2_with fail
    rw [HQ1.out, HQ2.out]
    refine HC.out.mono ?_
    rintro e w1 ⟨rfl, hb⟩
    have hI := HF.out w1 hb
    have hp := ((Pair.new w 25 (.bool false) (.slice none 0 0)).alloc _).below hb
    have hb1 : Below w.heap.size w w1 := (((Below.refl _ _).alloc (Nat.le_refl _) _).alloc (by simp) _).trans (hb.mono (by simp; omega))
    obtain ⟨hl, c0, c1, f0, f1⟩ := hp.facts
    clear hb HC HF
    go_wp2_with fail
    have hq := hp.store (.bool true) (.slice (some ⟨w.heap.size + 1, 0, none⟩) (natL m).length 2)
    obtain ⟨_, k0, k1, _, _⟩ := hq.facts
    exact bodyPost_ret (by simp [results, Tryz.results74, go_sem, k0, k1]) rfl ⟨_, rfl, (hI.pair (Nat.lt_succ_self _)).base (Nat.le_succ _), below2 hb1 (Nat.le_refl _) _ _⟩

theorem exact_Of (n : Int) (h1 : -9223372036854775808 ≤ n) (h2 : n ≤ 9223372036854775807) (w : World) :
    Calls Tryz.prog 74 #[.int .i64 n] w (RetInt w.heap.size w n) := by
  by_cases h0 : n = 0
  · subst h0; exact exact_Of_nought w
  · refine exact_Of_more n.natAbs (decide (n < 0)) n (by omega) (by omega) ?_ ?_ w
    · intro h; simp at h; omega
    · split
      · rename_i h; simp at h; omega
      · rename_i h; simp at h; omega

/- How many bits a number has: plain. -/

theorem bla_lt : ∀ f x : Nat, x < 2 ^ f → x < 2 ^ Lib.bitLenAux f x
  | 0, x, h => by simpa [Lib.bitLenAux] using h
  | f + 1, x, h => by
    simp only [Lib.bitLenAux]
    split
    · omega
    · have := bla_lt f (x / 2) (by rw [Nat.pow_succ] at h; omega)
      rw [Nat.add_comm, Nat.pow_succ]; omega
theorem bla_ge : ∀ f x k : Nat, k < Lib.bitLenAux f x → 2 ^ k ≤ x
  | 0, x, k, h => by simp [Lib.bitLenAux] at h
  | f + 1, x, k, h => by
    simp only [Lib.bitLenAux] at h
    split at h
    · omega
    · cases k with
      | zero => simp; omega
      | succ k =>
        have := bla_ge f (x / 2) k (by omega)
        rw [Nat.pow_succ]; omega
/- Check, Sign, Bits: of whatever limbs come in. -/

def okI (neg : Bool) (xs : List Nat) : Bool := decide (xs.length ≤ 2048) && (xs.getLast? != some 0) && !(xs.isEmpty && neg)
theorem okI_true {neg : Bool} {xs : List Nat} : okI neg xs = true ↔ xs.length ≤ 2048 ∧ Canon xs ∧ (xs = [] → neg = false) := by
  simp only [okI, Canon, Bool.and_eq_true, decide_eq_true_eq, bne_iff_ne, ne_eq, Bool.not_eq_true', Bool.and_eq_false_iff, List.isEmpty_eq_false_iff]
  constructor
  · rintro ⟨⟨h1, h2⟩, h3⟩
    refine ⟨h1, fun x hx h0 => h2 (by rw [hx, h0]), fun h => ?_⟩
    rcases h3 with h3 | h3
    · exact absurd h h3
    · exact h3
  · rintro ⟨h1, h2, h3⟩
    refine ⟨⟨h1, fun h => h2 0 h rfl⟩, ?_⟩
    by_cases h : xs = []
    · exact .inr (h3 h)
    · exact .inl h
theorem getLast_get {xs : List Nat} {k : Nat} (h : xs.length = k + 1) : xs.getLast? = some (xs[k]'(by omega)) := by
  have e : xs.length - 1 = k := by omega
  rw [List.getLast?_eq_getElem?, e, List.getElem?_eq_getElem]

def errI (neg : Bool) (xs : List Nat) : Int := if okI neg xs then 0 else 1


theorem exact_Check_long (neg : Bool) (A : Option Addr) (c : Nat) (xs : List Nat) (w : World) (h : Raw w A c xs) (hl : 2048 < xs.length) :
    Calls Tryz.prog 96 #[.agg #[.bool neg, .slice A xs.length c]] w fun e w' => e = .returned (.int .i64 1) ∧ Below w.heap.size w w' := by
  have h1 := h.cap
  have h2 := h.most
  clear h
  have hl2 : (2048 : Int) < (xs.length : Int) := by omega
  generalize xs.length = n at *
  go_enter Tryz.func96, Tryz.ntmps96
  go_wp2
  go_ret
  exact ⟨rfl, by repeat (first | exact Below.refl _ _ | apply Below.drew | refine Below.alloc ?_ (by simp; try omega) _)⟩

theorem exact_Check_empty (neg : Bool) (A : Option Addr) (c : Nat) (xs : List Nat) (w : World) (hl : xs.length = 0) :
    Calls Tryz.prog 96 #[.agg #[.bool neg, .slice A xs.length c]] w fun e w' => e = .returned (.int .i64 (if neg then 1 else 0)) ∧ Below w.heap.size w w' := by
  rw [hl]
  clear hl
  cases neg
  · go_enter Tryz.func96, Tryz.ntmps96
    go_wp2
    go_ret
    exact ⟨rfl, by repeat (first | exact Below.refl _ _ | apply Below.drew | refine Below.alloc ?_ (by simp; try omega) _)⟩
  · go_enter Tryz.func96, Tryz.ntmps96
    go_wp2
    go_ret
    exact ⟨rfl, by repeat (first | exact Below.refl _ _ | apply Below.drew | refine Below.alloc ?_ (by simp; try omega) _)⟩

theorem exact_Check_nought (neg : Bool) (A : Option Addr) (c : Nat) (xs : List Nat) (w : World) (h : Raw w A c xs) (k : Nat) (hk : xs.length = k + 1) (hl : xs.length ≤ 2048) (h0 : xs[k] = 0) :
    Calls Tryz.prog 96 #[.agg #[.bool neg, .slice A xs.length c]] w fun e w' => e = .returned (.int .i64 1) ∧ Below w.heap.size w w' := by
  have h1 := h.cap
  have h2 := h.most
  obtain ⟨ad, rfl, hbl, hcell⟩ := h.reads.get (k := k) (by omega)
  have hbk : (ad.add k).block < w.heap.size := by rw [block_of_add]; exact hbl
  rw [h0] at hcell
  clear h0
  rw [hk] at h1 hl ⊢
  clear h hk
  go_enter Tryz.func96, Tryz.ntmps96
  go_wp2
  go_ret
  exact ⟨rfl, by repeat (first | exact Below.refl _ _ | apply Below.drew | refine Below.alloc ?_ (by simp; try omega) _)⟩

theorem exact_Check_fine (neg : Bool) (A : Option Addr) (c : Nat) (xs : List Nat) (w : World) (h : Raw w A c xs) (k : Nat) (hk : xs.length = k + 1) (hl : xs.length ≤ 2048) (h0 : xs[k] ≠ 0) :
    Calls Tryz.prog 96 #[.agg #[.bool neg, .slice A xs.length c]] w fun e w' => e = .returned (.int .i64 0) ∧ Below w.heap.size w w' := by
  have h1 := h.cap
  have h2 := h.most
  obtain ⟨ad, rfl, hbl, hcell⟩ := h.reads.get (k := k) (by omega)
  have hbk : (ad.add k).block < w.heap.size := by rw [block_of_add]; exact hbl
  generalize xs[k] = y at hcell h0
  have hb : ((y : Int) == 0) = false := by simp; omega
  clear h0
  rw [hk] at h1 hl ⊢
  clear h hk
  go_enter Tryz.func96, Tryz.ntmps96
  go_wp2
  go_ret
  exact ⟨rfl, by repeat (first | exact Below.refl _ _ | apply Below.drew | refine Below.alloc ?_ (by simp; try omega) _)⟩

theorem exact_Check_any (neg : Bool) (A : Option Addr) (c : Nat) (xs : List Nat) (w : World) (h : Raw w A c xs) :
    Calls Tryz.prog 96 #[.agg #[.bool neg, .slice A xs.length c]] w fun e w' => e = .returned (.int .i64 (errI neg xs)) ∧ Below w.heap.size w w' := by
  by_cases hl : xs.length ≤ 2048
  · rcases Nat.eq_zero_or_pos xs.length with h0 | h0
    · have e : errI neg xs = if neg then 1 else 0 := by
        obtain rfl := List.eq_nil_of_length_eq_zero h0
        cases neg <;> rfl
      rw [e]
      exact exact_Check_empty neg A c xs w h0
    · obtain ⟨k, hk⟩ : ∃ k, xs.length = k + 1 := ⟨xs.length - 1, by omega⟩
      have hne : xs ≠ [] := by rintro rfl; simp at hk
      by_cases hz : xs[k] = 0
      · have e : errI neg xs = 1 := by simp [errI, okI, getLast_get hk, hz]
        rw [e]
        exact exact_Check_nought neg A c xs w h k hk hl hz
      · have e : errI neg xs = 0 := by simp [errI, okI, getLast_get hk, hz, hl, hne]
        rw [e]
        exact exact_Check_fine neg A c xs w h k hk hl hz
  · have e : errI neg xs = 1 := by simp [errI, okI, hl]
    rw [e]
    exact exact_Check_long neg A c xs w h (by omega)

/- Sign, Bits: of whatever limbs come in. -/

def sgnI (neg : Bool) (xs : List Nat) : Int := if xs.length = 0 then 0 else if neg then -1 else 1
def bitsI (xs : List Nat) : Nat := if xs.length = 0 then 0 else 32 * (xs.length - 1) + Lib.bitLen (xs.getLast?.getD 0)


theorem exact_Sign_any (neg : Bool) (A : Option Addr) (c : Nat) (xs : List Nat) (w : World) (h : Raw w A c xs) :
    Calls Tryz.prog 97 #[.agg #[.bool neg, .slice A xs.length c]] w fun e w' => e = .returned (.int .i64 (sgnI neg xs)) ∧ Below w.heap.size w w' := by
  have h1 := h.cap
  have h2 := h.most
  clear h
  unfold sgnI
  generalize xs.length = n at *
  by_cases h0 : n = 0
  · subst h0
    rw [if_pos rfl]
    go_enter Tryz.func97, Tryz.ntmps97
    go_wp2
    go_ret
    exact ⟨rfl, by repeat (first | exact Below.refl _ _ | apply Below.drew | refine Below.alloc ?_ (by simp; try omega) _)⟩
  · rw [if_neg h0]
    have hb : ((n : Int) == 0) = false := by simp; omega
    clear h0
    cases neg
    · rw [if_neg (by simp)]
      go_enter Tryz.func97, Tryz.ntmps97
      go_wp2
      go_ret
      exact ⟨rfl, by repeat (first | exact Below.refl _ _ | apply Below.drew | refine Below.alloc ?_ (by simp; try omega) _)⟩
    · rw [if_pos rfl]
      go_enter Tryz.func97, Tryz.ntmps97
      go_wp2
      go_ret
      exact ⟨rfl, by repeat (first | exact Below.refl _ _ | apply Below.drew | refine Below.alloc ?_ (by simp; try omega) _)⟩


/- trim, signed, Of of the references. -/

theorem limbInfo : (Tryz.prog.info? 109).map (fun i => (i.zero, i.size, i.bytes)) = some (some (.int .u32 0), 1, 4) := by kernel_rfl

end Go.Proofs.YtmcnmoljliggfaaGreatDoor
