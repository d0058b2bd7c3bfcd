/- Several texts in one: Of, Bits. -/
import Derived.Test.YtpcdiijmhllejaaDoorBk04
import Derived.Lib.BitFns
import Derived.WalkSmall
/- Of, Check, Sign, Bits of package exact and of package whole, over numbers of 64 bits and over whatever limbs come in. -/
namespace Go.Proofs.YtpcdiijmhllejaaDoor
open Go.RowKit

theorem val_two (a b : Nat) : val [a, b] = a + 4294967296 * b := by simp [val]
/-- The two limbs of a number below 2^64. -/
theorem raw_two (w : World) (t : TypeId) (a b : Nat) (ha : a < 4294967296) (hb : b < 4294967296) : Raw (w.alloc (.cells #[.int .u32 a, .int .u32 b] t)) (some ⟨w.heap.size, 0, none⟩) 2 [a, b] := by
  refine ⟨by simp [Limbs]; omega, by simp, by omega, rfl, fun _ => ⟨_, rfl, by simp, ?_⟩⟩
  exact World.news_of_block (heap_alloc_new w _)
theorem own_two (w : World) (base : Nat) (hbase : base ≤ w.heap.size) (a b : Nat) : (w.alloc (.cells #[.int .u32 a, .int .u32 b] 48)).ownsRow base 48 1 (.slice (some ⟨w.heap.size, 0, none⟩) 2 2) 2 (cellsU [a, b]) :=
  ⟨rfl, .inr ⟨w.heap.size, 2, #[.int .u32 a, .int .u32 b], rfl, hbase, heap_alloc_new w _, by omega, by unfold maxLen; omega, rfl, rfl⟩⟩

theorem raw_two1 (w : World) (o : Obj) (t : TypeId) (a b : Nat) (ha : a < 4294967296) (hb : b < 4294967296) : Raw ((w.alloc o).alloc (.cells #[.int .u32 a, .int .u32 b] t)) (some ⟨w.heap.size + 1, 0, none⟩) [a, b].length [a, b] := by
  have h := raw_two (w.alloc o) t a b ha hb
  simpa using h
theorem own_two1 (w : World) (o : Obj) (a b : Nat) : ((w.alloc o).alloc (.cells #[.int .u32 a, .int .u32 b] 48)).ownsRow (w.heap.size + 1) 48 1 (.slice (some ⟨w.heap.size + 1, 0, none⟩) [a, b].length [a, b].length) [a, b].length (cellsU [a, b]) := by
  have h := own_two (w.alloc o) (w.heap.size + 1) (by simp) a b
  simpa using h
/-- What Of hands to signed, and what comes back. -/
theorem two_limbs (m : Nat) (hm : m < 18446744073709551616) : m % 4294967296 < 4294967296 ∧ m / 4294967296 < 4294967296 ∧ val [m % 4294967296, m / 4294967296] = m := by
  rw [val_two]; omega

theorem own_pair {w : World} {g base : Nat} {a b : Value} {e : TypeId} {size n : Nat} {v : Value} {xs : List Value} (h : w.ownsRow base e size v n xs) (hne : v.ownBlock ≠ some g) : ((w.setCell ⟨g, 0, none⟩ a).setCell ⟨g, 1, none⟩ b).ownsRow base e size v n xs := by
  obtain ⟨h1, h2⟩ := h
  refine ⟨h1, ?_⟩
  rcases h2 with h2 | ⟨k, cap, cur, hv, hg, hh, r⟩
  · exact .inl h2
  · have hk : k ≠ g := fun e => hne (by rw [hv, e]; rfl)
    refine .inr ⟨k, cap, cur, hv, hg, ?_, r⟩
    rw [Below.heap_setCell _ _ _ _ hk, Below.heap_setCell _ _ _ _ hk]; exact hh
theorem IntOwn.pair {w : World} {g base : Nat} {a b : Value} {v : Value} {x : Int} (h : IntOwn w base v x) (hne : g < base) : IntOwn ((w.setCell ⟨g, 0, none⟩ a).setCell ⟨g, 1, none⟩ b) base v x := by
  obtain ⟨A, c, h1, h2, h3, h4⟩ := h.form
  refine ⟨A, c, h1, h2, h3, own_pair h4 (fun e => ?_)⟩
  have := (h4.lt g e).1
  omega
theorem IntOwn.base {w : World} {b b' : Nat} {v : Value} {x : Int} (h : IntOwn w b v x) (hb : b' ≤ b) : IntOwn w b' v x := by
  obtain ⟨A, c, h1, h2, h3, h4⟩ := h.form
  refine ⟨A, c, h1, h2, h3, h4.1, ?_⟩
  rcases h4.2 with h5 | ⟨g, cap, cur, k1, k2, k3⟩
  · exact .inl h5
  · exact .inr ⟨g, cap, cur, k1, Nat.le_trans hb k2, k3⟩

/-- A call that hands back a whole number of the call's own. -/
def RetInt (base : Nat) (w : World) (x : Int) (e : Ending) (w' : World) : Prop := ∃ v, e = .returned v ∧ IntOwn w' base v x ∧ Below w.heap.size w w'

set_option maxRecDepth 100000 in
set_option maxHeartbeats 400000 in
theorem exact_Of_nought (w : World) :
    Calls Tryd.prog 31 #[.int .i64 0] w (RetInt w.heap.size w 0) := by
  have C := exact_signed_nought false (some ⟨w.heap.size + 1, 0, none⟩) 2 [0, 0] _ (raw_two1 w (.cells #[.bool false, .slice none 0 0] 24) 48 0 0 (by omega) (by omega)) (by rfl)
  have HC := Lib.hid C
  clear C
  go_enter Tryd.func31, Tryd.ntmps31
  go_wp2_with fail
  refine HC.out.mono ?_
  rintro e w1 ⟨rfl, hb⟩
  have hp := ((Pair.new w 24 (.bool false) (.slice none 0 0)).alloc _).below hb
  have hb1 : Below w.heap.size w w1 := (((Below.refl _ _).alloc (Nat.le_refl _) _).alloc (by simp) _).trans (hb.mono (by simp; omega))
  obtain ⟨hl, c0, c1, f0, f1⟩ := hp.facts
  clear hb HC
  go_wp2_with fail
  have hq := hp.store (.bool false) (.slice none 0 0)
  obtain ⟨_, k0, k1, _, _⟩ := hq.facts
  exact bodyPost_ret (by simp [results, Tryd.results31, go_sem, k0, k1]) rfl ⟨_, rfl, IntOwn.nought _ _, below2 hb1 (Nat.le_refl _) _ _⟩

set_option maxRecDepth 100000 in
set_option maxHeartbeats 400000 in
theorem exact_Of_more (m : Nat) (neg : Bool) (n : Int) (hm0 : m ≠ 0) (hm : m ≤ 9223372036854775808) (hm2 : neg = false → m ≤ 9223372036854775807) (hn : n = if neg then -(m : Int) else m) (w : World) :
    Calls Tryd.prog 31 #[.int .i64 n] w (RetInt w.heap.size w n) := by
  obtain ⟨l1, l2, l3⟩ := two_limbs m (by omega)
  have C := exact_signed_more neg (some ⟨w.heap.size + 1, 0, none⟩) 2 [m % 4294967296, m / 4294967296] _ (raw_two1 w (.cells #[.bool false, .slice none 0 0] 24) 48 _ _ l1 l2) (by rw [l3]; exact hm0)
  have hown := own_two1 w (.cells #[.bool false, .slice none 0 0] 24) (m % 4294967296) (m / 4294967296)
  have fin : ∀ w1, Below ((w.alloc (.cells #[.bool false, .slice none 0 0] 24)).alloc (.cells #[.int .u32 (m % 4294967296 : Nat), .int .u32 (m / 4294967296 : Nat)] 48)).heap.size ((w.alloc (.cells #[.bool false, .slice none 0 0] 24)).alloc (.cells #[.int .u32 (m % 4294967296 : Nat), .int .u32 (m / 4294967296 : Nat)] 48)) w1 →
      IntOwn w1 (w.heap.size + 1) (.agg #[.bool neg, .slice (some ⟨w.heap.size + 1, 0, none⟩) (natL (val [m % 4294967296, m / 4294967296])).length 2]) n := by
    intro w1 hb
    exact IntOwn.signed (by simp [Limbs]; omega) (own_below hown hb) (by simp) (by simp) (by rw [l3]; exact hn) (by rw [l3]; exact hm0)
  rw [l3] at C fin
  have HC := Lib.hid C
  have HF := Lib.hid fin
  clear C fin hown l1 l2 l3
  have hq1 : ((m : Int) % 4294967296) = ((m % 4294967296 : Nat) : Int) := by omega
  have hq2 : ((m : Int) / 4294967296) = ((m / 4294967296 : Nat) : Int) := by omega
  have HQ1 := Lib.hid hq1
  have HQ2 := Lib.hid hq2
  clear hq1 hq2
  cases neg
  · have h2 := hm2 rfl
    simp only [Bool.false_eq_true, if_false] at hn
    subst hn
    have hlt : ¬ (m : Int) < 0 := by omega
    go_enter Tryd.func31, Tryd.ntmps31
    go_wp2_with fail
    rw [HQ1.out, HQ2.out]
    refine HC.out.mono ?_
    rintro e w1 ⟨rfl, hb⟩
    have hI := HF.out w1 hb
    have hp := ((Pair.new w 24 (.bool false) (.slice none 0 0)).alloc _).below hb
    have hb1 : Below w.heap.size w w1 := (((Below.refl _ _).alloc (Nat.le_refl _) _).alloc (by simp) _).trans (hb.mono (by simp; omega))
    obtain ⟨hl, c0, c1, f0, f1⟩ := hp.facts
    clear hb HC HF
    go_wp2_with fail
    have hq := hp.store (.bool false) (.slice (some ⟨w.heap.size + 1, 0, none⟩) (natL m).length 2)
    obtain ⟨_, k0, k1, _, _⟩ := hq.facts
    exact bodyPost_ret (by simp [results, Tryd.results31, go_sem, k0, k1]) rfl ⟨_, rfl, (hI.pair (Nat.lt_succ_self _)).base (Nat.le_succ _), below2 hb1 (Nat.le_refl _) _ _⟩
  · simp only [if_true] at hn
    have he : IntKind.u64.wrap (-IntKind.u64.wrap n) = (m : Int) := by rw [IntKind.wrap_u64, IntKind.wrap_u64]; omega
    have hlt : n < 0 := by omega
    have HN := Lib.hid hn
    clear hn
    go_enter Tryd.func31, Tryd.ntmps31
    go_wp2_with fail
    rw [HQ1.out, HQ2.out]
    refine HC.out.mono ?_
    rintro e w1 ⟨rfl, hb⟩
    have hI := HF.out w1 hb
    have hp := ((Pair.new w 24 (.bool false) (.slice none 0 0)).alloc _).below hb
    have hb1 : Below w.heap.size w w1 := (((Below.refl _ _).alloc (Nat.le_refl _) _).alloc (by simp) _).trans (hb.mono (by simp; omega))
    obtain ⟨hl, c0, c1, f0, f1⟩ := hp.facts
    clear hb HC HF
    go_wp2_with fail
    have hq := hp.store (.bool true) (.slice (some ⟨w.heap.size + 1, 0, none⟩) (natL m).length 2)
    obtain ⟨_, k0, k1, _, _⟩ := hq.facts
    exact bodyPost_ret (by simp [results, Tryd.results31, go_sem, k0, k1]) rfl ⟨_, rfl, (hI.pair (Nat.lt_succ_self _)).base (Nat.le_succ _), below2 hb1 (Nat.le_refl _) _ _⟩

theorem exact_Of (n : Int) (h1 : -9223372036854775808 ≤ n) (h2 : n ≤ 9223372036854775807) (w : World) :
    Calls Tryd.prog 31 #[.int .i64 n] w (RetInt w.heap.size w n) := by
  by_cases h0 : n = 0
  · subst h0; exact exact_Of_nought w
  · refine exact_Of_more n.natAbs (decide (n < 0)) n (by omega) (by omega) ?_ ?_ w
    · intro h; simp at h; omega
    · split
      · rename_i h; simp at h; omega
      · rename_i h; simp at h; omega

end Go.Proofs.YtpcdiijmhllejaaDoor

/- How many bits a number has: plain. -/
namespace Go.Proofs.YtpcdiijmhllejaaDoor

theorem bla_le : ∀ f x : Nat, Lib.bitLenAux f x ≤ f
  | 0, _ => Nat.le_refl _
  | f + 1, x => by
    simp only [Lib.bitLenAux]
    split
    · omega
    · have := bla_le f (x / 2); omega
theorem bla_lt : ∀ f x : Nat, x < 2 ^ f → x < 2 ^ Lib.bitLenAux f x
  | 0, x, h => by simpa [Lib.bitLenAux] using h
  | f + 1, x, h => by
    simp only [Lib.bitLenAux]
    split
    · omega
    · have := bla_lt f (x / 2) (by rw [Nat.pow_succ] at h; omega)
      rw [Nat.add_comm, Nat.pow_succ]; omega
theorem bla_ge : ∀ f x k : Nat, k < Lib.bitLenAux f x → 2 ^ k ≤ x
  | 0, x, k, h => by simp [Lib.bitLenAux] at h
  | f + 1, x, k, h => by
    simp only [Lib.bitLenAux] at h
    split at h
    · omega
    · cases k with
      | zero => simp; omega
      | succ k =>
        have := bla_ge f (x / 2) k (by omega)
        rw [Nat.pow_succ]; omega
theorem bitLen_le64 (n : Nat) : Lib.bitLen n ≤ 64 := bla_le 64 n
theorem bitLen_end (n : Nat) (h : n ≤ 18446744073709551615) : n / 2 ^ Lib.bitLen n = 0 :=
  Nat.div_eq_of_lt (bla_lt 64 n (by omega))
theorem bitLen_more (n k : Nat) (h : k < Lib.bitLen n) : n / 2 ^ k ≠ 0 := by
  have h1 := bla_ge 64 n k h
  have h2 := Nat.two_pow_pos k
  have := Nat.div_le_div_right (c := 2 ^ k) h1
  rw [Nat.div_self h2] at this
  omega
theorem bit_val (n k : Nat) (hn : n ≤ 18446744073709551615) : bits .and .u64 ((n : Int) / 2 ^ k) 1 = ((n / 2 ^ k % 2 : Nat) : Int) := by
  have h : ((n : Int) / 2 ^ k) = ((n / 2 ^ k : Nat) : Int) := by simp
  have h2 : n / 2 ^ k ≤ n := Nat.div_le_self _ _
  rw [h]
  generalize n / 2 ^ k = q at h2
  rw [and_one_u64 _ (by omega) (by omega)]
  omega
theorem bit_one (n k : Nat) (hn : n ≤ 18446744073709551615) (h : n / 2 ^ k % 2 = 1) : (bits .and .u64 ((n : Int) / 2 ^ k) 1 == 1) = true := by
  rw [bit_val n k hn, h]; rfl
theorem bit_nought (n k : Nat) (hn : n ≤ 18446744073709551615) (h : ¬ n / 2 ^ k % 2 = 1) : (bits .and .u64 ((n : Int) / 2 ^ k) 1 == 1) = false := by
  rw [bit_val n k hn, show n / 2 ^ k % 2 = 0 by omega]; rfl
theorem bit_one0 (n : Nat) (hn : n ≤ 18446744073709551615) (h : n % 2 = 1) : (bits .and .u64 (n : Int) 1 == 1) = true := by
  have := bit_one n 0 hn (by simpa using h)
  simpa using this
theorem bit_nought0 (n : Nat) (hn : n ≤ 18446744073709551615) (h : ¬ n % 2 = 1) : (bits .and .u64 (n : Int) 1 == 1) = false := by
  have := bit_nought n 0 hn (by simpa using h)
  simpa using this
end Go.Proofs.YtpcdiijmhllejaaDoor
