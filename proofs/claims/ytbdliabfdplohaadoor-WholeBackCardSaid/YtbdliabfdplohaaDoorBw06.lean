/- Several texts in one: Front, Bytes, DecLaw. -/
import Derived.Test.YtbdliabfdplohaaDoorBw05
import Derived.Test.YtbdliabfdplohaaDoorBwHd
import Derived.BigQuiet
import Derived.Lib.UnsafeStr
import Derived.Lib.ItoaNum
set_option maxRecDepth 100000
set_option maxHeartbeats 8000000
/- A block whose first cells are limbs; slices.Clone of limbs. -/
namespace Go.Proofs.YtbdliabfdplohaaDoor
open Go.RowKit

theorem Blk.stays {w w' : World} {g : Nat} {t : TypeId} {cs : Array Value} {row : Option Nat} (h : Blk w g t cs) (hg : w.grownBy w' row) (hn : some g ≠ row) : Blk w' g t cs := (hg.block g h.lt hn).trans h

structure Front (w : World) (g cap : Nat) (zs : List Nat) : Prop where
  ex : ∃ rest : List Value, zs.length + rest.length = cap ∧ Blk w g 40 (cellsU zs ++ rest).toArray
theorem Row.front {w : World} {g : Nat} {zs : List Nat} (h : Row w g zs) : Front w g zs.length zs := ⟨[], rfl, by simpa using h.blk⟩
theorem Front.lt {w : World} {g cap : Nat} {zs : List Nat} (h : Front w g cap zs) : g < w.heap.size := by
  obtain ⟨rest, -, hb⟩ := h.ex
  exact hb.lt
theorem Front.fits {w : World} {g cap : Nat} {zs : List Nat} (h : Front w g cap zs) : zs.length ≤ cap := by
  obtain ⟨rest, he, -⟩ := h.ex
  omega
theorem Front.cell {w : World} {g cap : Nat} {zs : List Nat} (h : Front w g cap zs) {k : Nat} (hk : k < zs.length) : w.cell? ⟨g, k, none⟩ = some (.int .u32 zs[k]) := by
  obtain ⟨rest, -, hb⟩ := h.ex
  rw [hb.cell, List.getElem?_toArray, List.getElem?_append_left (by rw [cellsU_length]; exact hk), cellsU_get hk]
theorem Front.frozen {w : World} {g cap : Nat} {zs : List Nat} (h : Front w g cap zs) (k : Nat) : w.frozen? ⟨g, k, none⟩ = false := by
  obtain ⟨rest, -, hb⟩ := h.ex
  exact hb.frozen k
theorem Front.set {w : World} {g cap : Nat} {zs : List Nat} (h : Front w g cap zs) {k : Nat} (hk : k < zs.length) (d : Nat) : Front (w.setCell ⟨g, k, none⟩ (.int .u32 (d : Int))) g cap (zs.set k d) := by
  obtain ⟨rest, he, hb⟩ := h.ex
  refine ⟨rest, by simpa using he, ?_⟩
  have e : (cellsU (zs.set k d) ++ rest).toArray = (cellsU zs ++ rest).toArray.setIfInBounds k (.int .u32 (d : Int)) := by
    rw [List.setIfInBounds_toArray, List.set_append_left _ _ (by rw [cellsU_length]; exact hk)]
    simp [cellsU, List.map_set]
  rw [e]
  exact hb.set_ k _
theorem Front.stays {w w' : World} {g cap : Nat} {zs : List Nat} {row : Option Nat} (h : Front w g cap zs) (hg : w.grownBy w' row) (hn : some g ≠ row) : Front w' g cap zs := by
  obtain ⟨rest, he, hb⟩ := h.ex
  exact ⟨rest, he, hb.stays hg hn⟩
theorem Front.below {w w' : World} {g cap : Nat} {zs : List Nat} (h : Front w g cap zs) (hb : Below w.heap.size w w') : Front w' g cap zs := by
  obtain ⟨rest, he, hk⟩ := h.ex
  exact ⟨rest, he, hk.below hb hk.lt⟩
theorem Front.alloc {w : World} {g cap : Nat} {zs : List Nat} (h : Front w g cap zs) (o : Obj) : Front (w.alloc o) g cap zs := h.below ((Below.refl _ _).alloc (Nat.le_refl _) o)
theorem Front.cut {w : World} {g cap : Nat} {zs : List Nat} (h : Front w g cap zs) (n : Nat) : Front w g cap (zs.take n) := by
  obtain ⟨rest, he, hb⟩ := h.ex
  refine ⟨cellsU (zs.drop n) ++ rest, by simp [cellsU_length]; omega, ?_⟩
  rw [← List.append_assoc, show cellsU (zs.take n) ++ cellsU (zs.drop n) = cellsU zs by rw [cellsU, cellsU, ← List.map_append, List.take_append_drop]; rfl]
  exact hb
theorem Front.own {w : World} {g cap base : Nat} {zs : List Nat} (h : Front w g cap zs) (hb : base ≤ g) {n : Nat} (hn : n ≤ zs.length) (hm : cap ≤ 9223372036854775807) :
    w.ownsRow base 40 1 (.slice (some ⟨g, 0, none⟩) n cap) n (cellsU (zs.take n)) := by
  obtain ⟨rest, he, hk⟩ := h.ex
  refine ⟨by rw [cellsU_length, List.length_take]; omega, .inr ⟨g, cap, (cellsU zs ++ rest).toArray, rfl, hb, hk, by omega, by unfold maxLen; omega, by simp [cellsU]; omega, ?_⟩⟩
  rw [Nat.mul_one, cellsU_take, List.take_append_of_le_length (by rw [cellsU_length]; exact hn)]
theorem Front.ownL {w : World} {g cap base : Nat} {zs : List Nat} (h : Front w g cap zs) (hb : base ≤ g) (hm : cap ≤ 9223372036854775807) (hz : Limbs zs) : OwnL w base (.slice (some ⟨g, 0, none⟩) zs.length cap) (val zs) zs.length := by
  have := h.own hb (Nat.le_refl _) hm
  rw [List.take_length] at this
  exact ⟨_, _, zs, rfl, hz, rfl, Nat.le_refl _, h.fits, hm, this⟩
theorem Front.reads {w : World} {g cap : Nat} {zs : List Nat} (h : Front w g cap zs) : ReadsU w w.heap.size (some ⟨g, 0, none⟩) zs := by
  refine ⟨by rw [cellsU_length, Nat.mul_one], fun _ => ⟨⟨g, 0, none⟩, rfl, h.lt, fun j u hu => ?_⟩⟩
  have hj : j < zs.length := by
    have := (List.getElem?_eq_some_iff.1 hu).1
    rwa [cellsU_length] at this
  rw [cellsU_get hj] at hu
  have e : (⟨g, 0, none⟩ : Addr).add j = ⟨g, j, none⟩ := by unfold Addr.add; split <;> simp_all
  rw [e, ← hu]
  exact h.cell hj
theorem Front.raw {w : World} {g cap : Nat} {zs : List Nat} (h : Front w g cap zs) (hm : cap ≤ 9223372036854775807) (hz : Limbs zs) : Raw w (some ⟨g, 0, none⟩) cap zs := ⟨hz, h.fits, hm, h.reads⟩

structure OwnX (w : World) (base : Nat) (v : Value) (zs : List Nat) : Prop where
  limbs : Limbs zs
  form : ∃ A c, v = .slice A zs.length c ∧ zs.length ≤ c ∧ c ≤ 9223372036854775807 ∧ w.ownsRow base 40 1 (.slice A zs.length c) zs.length (cellsU zs)
theorem OwnX.ownL {w : World} {base : Nat} {v : Value} {zs : List Nat} (h : OwnX w base v zs) : OwnL w base v (val zs) zs.length := by
  obtain ⟨A, c, h1, h2, h3, h4⟩ := h.form
  exact ⟨A, c, zs, h1, h.limbs, rfl, Nat.le_refl _, h2, h3, h4⟩
theorem OwnX.front {w : World} {base : Nat} {v : Value} {zs : List Nat} (h : OwnX w base v zs) (h0 : zs ≠ []) : ∃ g cap, v = .slice (some ⟨g, 0, none⟩) zs.length cap ∧ base ≤ g ∧ cap ≤ 9223372036854775807 ∧ Front w g cap zs := by
  obtain ⟨A, c, h1, h2, h3, h4⟩ := h.form
  have hne : zs.length ≠ 0 := fun h => h0 (List.eq_nil_of_length_eq_zero h)
  rcases h4.2 with ⟨k1, k2⟩ | ⟨g, cap, cur, k1, k2, k3, k4, k5, k6, k7⟩
  · exact absurd k2 hne
  · rw [h1, k1]
    refine ⟨g, cap, rfl, k2, by simp only [maxLen] at k5; omega, cur.toList.drop zs.length, ?_, ?_⟩
    · have : cur.toList.length = cap := by rw [Array.length_toList]; omega
      rw [List.length_drop]; omega
    · rw [Nat.mul_one] at k7
      rw [← k7, List.take_append_drop]
      exact k3
theorem OwnX.of_own {w : World} {base : Nat} {v : Value} {zs : List Nat} (hz : Limbs zs) (h : w.ownsRow base 40 1 v zs.length (cellsU zs)) : OwnX w base v zs := by
  rcases h.2 with ⟨rfl, k2⟩ | ⟨g, cap, cur, rfl, k2, k3, k4, k5, k6, k7⟩
  · obtain rfl := List.eq_nil_of_length_eq_zero k2
    exact ⟨hz, none, 0, rfl, Nat.le_refl _, by omega, h⟩
  · exact ⟨hz, _, cap, rfl, k4, by simp only [maxLen] at k5; omega, h⟩
theorem OwnX.below {w w' : World} {base : Nat} {v : Value} {zs : List Nat} (h : OwnX w base v zs) (hb : Below w.heap.size w w') : OwnX w' base v zs := by
  obtain ⟨A, c, h1, h2, h3, h4⟩ := h.form
  exact ⟨h.limbs, A, c, h1, h2, h3, own_below h4 hb⟩

theorem slices_Clone (A : Option Addr) (c : Nat) (xs : List Nat) (hl : xs.length ≤ 1073741824) (w : World) (h : Raw w A c xs) :
    Calls Tryd.prog 29 #[.slice A xs.length c] w fun e w' => ∃ v, e = .returned v ∧ OwnX w' w.heap.size v xs ∧ Below w.heap.size w w' := by
  have qT : ∀ (w : World) (A : Option Addr) (n c : Nat), (binOp .eql 22 (.slice A n c) (.slice none 0 0)).run Tryd.prog w = .ok (.bool A.isNone) w := fun w A n c => Lib.run_eql_slice_nil w _ _ A n c 0 0 Tryd.underlying22
  rcases A with _ | ad
  · have hx : xs = [] := by
      rcases Nat.eq_zero_or_pos xs.length with h0 | h0
      · exact List.eq_nil_of_length_eq_zero h0
      · obtain ⟨ad, e, -⟩ := h.reads.get h0
        cases e
    subst hx
    have hl0 := h.limbs
    clear h
    go_enter Tryd.func29, Tryd.ntmps29
    go_wp2_with fail
    go_ret
    exact ⟨_, rfl, ⟨hl0, none, 0, rfl, Nat.le_refl _, by omega, World.ownsRow_nil _ _ _ _⟩, Below.refl _ _⟩
  · obtain ⟨i0, hi, hz0, hz1, hz2⟩ := info_parts limbInfo
    have hc := h.cap
    have HX := Hd h
    clear h
    go_enter Tryd.func29, Tryd.ntmps29
    go_wp2_with (at_builtin; refine wpList_append_any _ rfl (.tmp 5) (.tmp 6) _ rfl w.heap.size 40 i0 _ 1 4 Tryd.underlying22 hi hz0 hz1 hz2 rfl (by omega) _ 0 _ rfl (World.ownsRow_made w #[] 0 (Nat.le_refl _) (by unfold maxLen; omega) rfl) _ (some ad) xs.length c (cellsU xs) rfl ((HX.out.alloc _).reads) (by intro u hu; simp [cellsU] at hu; obtain ⟨x, -, rfl⟩ := hu; simp [Value.oneCell']) (by unfold maxLen; omega) (by omega) (by simp) ?_; intro v' w' ho' hg' hat')
    go_ret
    refine ⟨_, rfl, OwnX.of_own HX.out.limbs (by simpa using ho'), ?_⟩
    exact below_more (World.ownsRow_made (size := 1) w #[] 0 (Nat.le_refl _) (by unfold maxLen; omega) rfl) ((Below.refl _ _).alloc (Nat.le_refl _) _) (Nat.le_refl _) (by simp) hg'
/- Bytes in front of a block; a row cut short. -/

theorem byteCells_get {zs : List UInt8} {k : Nat} (hk : k < zs.length) : (Lib.byteCells zs)[k]? = some (.int .u8 (zs[k].toNat : Int)) := by
  simp [Lib.byteCells, hk]
structure Front8 (w : World) (g cap : Nat) (zs : List UInt8) : Prop where
  ex : ∃ rest : List Value, zs.length + rest.length = cap ∧ Blk w g 5 (Lib.byteCells zs ++ rest).toArray
theorem Front8.lt {w : World} {g cap : Nat} {zs : List UInt8} (h : Front8 w g cap zs) : g < w.heap.size := by
  obtain ⟨rest, -, hb⟩ := h.ex
  exact hb.lt
theorem Front8.fits {w : World} {g cap : Nat} {zs : List UInt8} (h : Front8 w g cap zs) : zs.length ≤ cap := by
  obtain ⟨rest, he, -⟩ := h.ex
  omega
theorem Front8.cell {w : World} {g cap : Nat} {zs : List UInt8} (h : Front8 w g cap zs) {k : Nat} (hk : k < zs.length) : w.cell? ⟨g, k, none⟩ = some (.int .u8 (zs[k].toNat : Int)) := by
  obtain ⟨rest, -, hb⟩ := h.ex
  rw [hb.cell, List.getElem?_toArray, List.getElem?_append_left (by rw [Lib.byteCells_length]; exact hk), byteCells_get hk]
theorem Front8.frozen {w : World} {g cap : Nat} {zs : List UInt8} (h : Front8 w g cap zs) (k : Nat) : w.frozen? ⟨g, k, none⟩ = false := by
  obtain ⟨rest, -, hb⟩ := h.ex
  exact hb.frozen k
theorem Front8.set {w : World} {g cap : Nat} {zs : List UInt8} (h : Front8 w g cap zs) {k : Nat} (hk : k < zs.length) (d : UInt8) : Front8 (w.setCell ⟨g, k, none⟩ (.int .u8 (d.toNat : Int))) g cap (zs.set k d) := by
  obtain ⟨rest, he, hb⟩ := h.ex
  refine ⟨rest, by simpa using he, ?_⟩
  have e : (Lib.byteCells (zs.set k d) ++ rest).toArray = (Lib.byteCells zs ++ rest).toArray.setIfInBounds k (.int .u8 (d.toNat : Int)) := by
    rw [List.setIfInBounds_toArray, List.set_append_left _ _ (by rw [Lib.byteCells_length]; exact hk)]
    simp [Lib.byteCells, List.map_set]
  rw [e]
  exact hb.set_ k _
theorem Front8.of_own {w : World} {base n cap g : Nat} {zs : List UInt8} (h : w.ownsRow base 5 1 (.slice (some ⟨g, 0, none⟩) n cap) n (Lib.byteCells zs)) : Front8 w g cap zs ∧ zs.length = n := by
  have hl : zs.length = n := by have := h.1; rw [Lib.byteCells_length] at this; omega
  rcases h.2 with ⟨k1, k2⟩ | ⟨g', cap', cur, k1, k2, k3, k4, k5, k6, k7⟩
  · cases k1
  · injection k1 with a1 a2 a3
    injection a1 with a1
    injection a1 with a1
    subst a1 a3
    refine ⟨⟨cur.toList.drop n, ?_, ?_⟩, hl⟩
    · have : cur.toList.length = cap := by rw [Array.length_toList]; omega
      rw [List.length_drop]; omega
    · rw [Nat.mul_one] at k7
      rw [← k7, List.take_append_drop]
      exact k3
theorem row_cut {w : World} {base n cap g m : Nat} {t : TypeId} {xs : List Value} (h : w.ownsRow base t 1 (.slice (some ⟨g, 0, none⟩) n cap) n xs) (hm : m ≤ n) : w.ownsRow base t 1 (.slice (some ⟨g, 0, none⟩) m cap) m (xs.take m) := by
  refine ⟨by have := h.1; rw [List.length_take]; omega, ?_⟩
  rcases h.2 with ⟨k1, k2⟩ | ⟨g', cap', cur, k1, k2, k3, k4, k5, k6, k7⟩
  · cases k1
  · injection k1 with a1 a2 a3
    injection a1 with a1
    injection a1 with a1
    subst a1 a3
    refine .inr ⟨g, cap, cur, rfl, k2, k3, by omega, k5, k6, ?_⟩
    rw [← k7, List.take_take]
    congr 1
    omega
theorem own_block {w : World} {base n c : Nat} {t : TypeId} {A : Option Addr} {xs : List Value} (h : w.ownsRow base t 1 (.slice A n c) n xs) (h0 : n ≠ 0) : ∃ g, A = some ⟨g, 0, none⟩ ∧ base ≤ g ∧ n ≤ c ∧ c ≤ 9223372036854775807 := by
  rcases h.2 with ⟨k1, k2⟩ | ⟨g', cap', cur, k1, k2, k3, k4, k5, k6, k7⟩
  · exact absurd k2 h0
  · injection k1 with a1 a2 a3
    exact ⟨g', a1, k2, by omega, by simp only [maxLen] at k5; omega⟩
/- Decimal digits by nines: plain Lean. -/

def padN : Nat → Nat → List UInt8
  | 0, _ => []
  | k + 1, c => padN k (c / 10) ++ [UInt8.ofNat (48 + c % 10)]
theorem padN_length : ∀ (k c : Nat), (padN k c).length = k
  | 0, _ => rfl
  | k + 1, c => by simp [padN, padN_length k]
theorem dec_last {v : Nat} (h : 10 ≤ v) : Lib.decDigits v = Lib.decDigits (v / 10) ++ [UInt8.ofNat (48 + v % 10)] := by
  rw [Lib.decDigits, dif_neg (by omega)]
theorem dec_split : ∀ (k v : Nat), 10 ^ k ≤ v → Lib.decDigits v = Lib.decDigits (v / 10 ^ k) ++ padN k v
  | 0, v, _ => by simp [padN]
  | k + 1, v, h => by
    have e : 10 ^ (k + 1) = 10 * 10 ^ k := by rw [Nat.pow_succ, Nat.mul_comm]
    have hp : 0 < 10 ^ k := Nat.pow_pos (by omega)
    have h10 : 10 ≤ v := by
      have : 10 * 1 ≤ 10 * 10 ^ k := Nat.mul_le_mul_left _ hp
      omega
    have hk : 10 ^ k ≤ v / 10 := by
      rw [Nat.le_div_iff_mul_le (by omega), Nat.mul_comm]; omega
    rw [dec_last h10, dec_split k (v / 10) hk, padN, e, Nat.div_div_eq_div_mul, List.append_assoc]
theorem padN_dec : ∀ (k c : Nat), 0 < k → c < 10 ^ k → padN k c = List.replicate (k - (Lib.decDigits c).length) 48 ++ Lib.decDigits c
  | 0, _, h, _ => absurd h (by omega)
  | k + 1, c, _, hc => by
    rw [padN]
    rcases Nat.lt_or_ge c 10 with h | h
    · have e0 : c / 10 = 0 := by omega
      have em : c % 10 = c := by omega
      rw [e0, em, Lib.decDigits_one h]
      have z : ∀ j, padN j 0 = List.replicate j 48 := by
        intro j
        induction j with
        | zero => rfl
        | succ j ih => rw [padN, Nat.zero_div, ih, List.replicate_succ']; rfl
      rw [z]; simp
    · have hk : 0 < k := by
        rcases Nat.eq_zero_or_pos k with h0 | h0
        · subst h0; simp at hc; omega
        · exact h0
      have hc2 : c / 10 < 10 ^ k := by
        rw [Nat.div_lt_iff_lt_mul (by omega), Nat.mul_comm, ← Nat.pow_succ']; exact hc
      rw [padN_dec k (c / 10) hk hc2, dec_last h, List.append_assoc]
      simp
theorem padN_mod (k : Nat) : ∀ (c : Nat), padN k (c % 10 ^ k) = padN k c := by
  induction k with
  | zero => intro c; rfl
  | succ k ih =>
    intro c
    rw [padN, padN]
    have e : 10 ^ (k + 1) = 10 * 10 ^ k := by rw [Nat.pow_succ, Nat.mul_comm]
    have e1 : c % 10 ^ (k + 1) / 10 = c / 10 % 10 ^ k := by rw [e, Nat.mod_mul_right_div_self]
    have e2 : c % 10 ^ (k + 1) % 10 = c % 10 := by rw [e, Nat.mod_mul_right_mod]
    rw [e1, e2, ih]
theorem pad9 (c : Nat) (h : c < 1000000000) : padN 9 c = List.replicate (9 - (Lib.decDigits c).length) 48 ++ Lib.decDigits c := padN_dec 9 c (by omega) (by simpa using h)
theorem dec_nine {v : Nat} (h : 1000000000 ≤ v) : Lib.decDigits v = Lib.decDigits (v / 1000000000) ++ padN 9 (v % 1000000000) := by
  have e : (10 : Nat) ^ 9 = 1000000000 := by decide
  have := dec_split 9 v (by rw [e]; exact h)
  rw [← padN_mod, e] at this
  exact this
def chunks (v : Nat) : List Nat := if h : v = 0 then [] else (v % 1000000000) :: chunks (v / 1000000000)
decreasing_by omega
theorem chunks_nil : chunks 0 = [] := by rw [chunks, dif_pos rfl]
theorem chunks_cons {v : Nat} (h : v ≠ 0) : chunks v = (v % 1000000000) :: chunks (v / 1000000000) := by rw [chunks, dif_neg h]
theorem chunks_lt : ∀ (v : Nat), ∀ c ∈ chunks v, c < 1000000000 := by
  intro v
  induction v using Nat.strongRecOn with
  | ind v ih =>
    intro c hc
    by_cases h : v = 0
    · subst h; rw [chunks_nil] at hc; simp at hc
    · rw [chunks_cons h] at hc
      rcases List.mem_cons.1 hc with rfl | hc
      · omega
      · exact ih _ (by omega) c hc
def chunkText : List Nat → List UInt8
  | [] => []
  | [c] => Lib.decDigits c
  | c :: d :: r => chunkText (d :: r) ++ padN 9 c
theorem chunk_text : ∀ (v : Nat), v ≠ 0 → chunkText (chunks v) = Lib.decDigits v := by
  intro v
  induction v using Nat.strongRecOn with
  | ind v ih =>
    intro h
    rw [chunks_cons h]
    by_cases h2 : v / 1000000000 = 0
    · rw [h2, chunks_nil]
      show Lib.decDigits (v % 1000000000) = _
      rw [Nat.mod_eq_of_lt (by omega)]
    · rw [dec_nine (by omega), ← ih _ (by omega) h2, chunks_cons h2]
      rfl
theorem dec_short : ∀ (k c : Nat), 0 < k → c < 10 ^ k → (Lib.decDigits c).length ≤ k
  | 0, _, h, _ => absurd h (by omega)
  | k + 1, c, _, hc => by
    rcases Nat.lt_or_ge c 10 with h | h
    · rw [Lib.decDigits_one h]; simp
    · have hk : 0 < k := by
        rcases Nat.eq_zero_or_pos k with h0 | h0
        · subst h0; simp at hc; omega
        · exact h0
      have hc2 : c / 10 < 10 ^ k := by
        rw [Nat.div_lt_iff_lt_mul (by omega), Nat.mul_comm, ← Nat.pow_succ']; exact hc
      have := dec_short k (c / 10) hk hc2
      rw [dec_last h]; simp; omega
theorem dec_nine_len {c : Nat} (h : c < 1000000000) : (Lib.decDigits c).length ≤ 9 := dec_short 9 c (by omega) (by simpa using h)
theorem chunkText_length : ∀ (cs : List Nat), (∀ c ∈ cs, c < 1000000000) → (chunkText cs).length ≤ 9 * cs.length
  | [], _ => by simp [chunkText]
  | [c], h => by have := dec_nine_len (h c (by simp)); simp [chunkText]; omega
  | c :: d :: r, h => by
    have := chunkText_length (d :: r) (fun x hx => h x (List.mem_cons_of_mem _ hx))
    simp [chunkText, padN_length] at *
    omega
theorem chunk_top {cs : List Nat} {m : Nat} (h : m + 1 = cs.length) : chunkText (cs.drop m) = Lib.decDigits (cs[m]'(by omega)) := by
  have e : cs.drop m = [cs[m]'(by omega)] := by
    rw [List.drop_eq_getElem_cons (by omega), List.drop_eq_nil_of_le (by omega)]
  rw [e]; rfl
theorem chunk_next {cs : List Nat} {m : Nat} (h : m + 1 < cs.length) : chunkText (cs.drop m) = chunkText (cs.drop (m + 1)) ++ padN 9 (cs[m]'(by omega)) := by
  have e : cs.drop m = cs[m]'(by omega) :: cs[m + 1]'h :: cs.drop (m + 1 + 1) := by
    rw [List.drop_eq_getElem_cons (by omega), List.drop_eq_getElem_cons h]
  have e2 : cs.drop (m + 1) = cs[m + 1]'h :: cs.drop (m + 1 + 1) := List.drop_eq_getElem_cons h
  rw [e, e2]; rfl
end Go.Proofs.YtbdliabfdplohaaDoor
