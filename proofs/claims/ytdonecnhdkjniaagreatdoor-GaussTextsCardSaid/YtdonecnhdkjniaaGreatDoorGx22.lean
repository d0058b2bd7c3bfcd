/- Several texts in one: Builder, DecLaw, Digits, FText, FLaw. -/
import Derived.Lib.Builder
import Derived.Lib.AppendStr
import Derived.Lib.Slices
import Derived.Lib.Walk
import Derived.Lib.Strings
import Derived.Laws.Externs
import Derived.Lib.ItoaNum
import Derived.Lib.AppendIntMem
import Derived.Test.YtdonecnhdkjniaaGreatDoorGx21
import Derived.Laws.Concat
set_option maxRecDepth 100000
set_option maxHeartbeats 8000000
namespace Go.Proofs.YtdonecnhdkjniaaGreatDoor
open Go.RowKit

theorem builderSize : (Tryz.prog.info? 224).map (·.size) = some 2 := by kernel_rfl
theorem builderLies : liesAt Tryz.prog Tryz.prog.depth 224 (2 / Tryz.prog.cellsOf 224) 0 224 1 = true := by kernel_rfl
theorem byteInfo : (Tryz.prog.info? 5).map (fun i => (i.zero, i.size, i.bytes)) = some (some (.int .u8 0), 1, 1) := by kernel_rfl
abbrev Bld (B b : Nat) (bs : List Value) (w : World) : Prop := Lib.IsBuilder 224 5 B b bs w

theorem check_used (b : Nat) (w : World) (h0 : w.cell? ⟨b, 0, none⟩ = some (.pointer (some ⟨b, 0, none⟩))) :
  Calls Tryz.prog 209 #[.pointer (some ⟨b, 0, none⟩)] w fun e w' => e = .returned (.tuple #[]) /\ w' = w := by
 obtain ⟨j, hj, -⟩ := Option.map_eq_some_iff.1 builderSize
 go_enter Tryz.func209, Tryz.ntmps209
 go_wp2
 rw [Lib.run_neq_ptr_same w _ Tryz.underlying221 hj]
 go_wp2
 go_end0
 exact ⟨rfl, rfl⟩

theorem check_fresh (b : Nat) (w : World) (h0 : w.cell? ⟨b, 0, none⟩ = some (.pointer none)) (hsh : w.shape? b = some (224, 2)) (hfz : w.frozen? ⟨b, 0, none⟩ = false) :
  Calls Tryz.prog 209 #[.pointer (some ⟨b, 0, none⟩)] w fun e w' => e = .returned (.tuple #[]) /\ w' = w.setCell ⟨b, 0, none⟩ (.pointer (some ⟨b, 0, none⟩)) := by
 obtain ⟨j, hj, hjs⟩ := Option.map_eq_some_iff.1 builderSize
 go_enter Tryz.func209, Tryz.ntmps209
 go_wp2
 rw [Lib.run_to_unsafe w ⟨b, 0, none⟩ Tryz.underlying221 Tryz.underlying262 hj (by rw [hjs]; decide) hsh (Nat.zero_lt_succ 1)]
 simp only [Result.andThen]
 rw [Oper.upon_value]
 go_wp2
 rw [run_callFunc_extern Tryz.func243 (by kernel_rfl) (by kernel_rfl) (by kernel_rfl) (e := Extern.AbiNoEscape.same) (by kernel_rfl)]
 rw [Lib.run_noEscape]
 simp only [Result.andThen]
 rw [Oper.upon_value]
 go_wp2
 rw [Lib.run_from_unsafe w ⟨b, 0, none⟩ Tryz.underlying262 Tryz.underlying221 hj hsh builderLies]
 simp only [Result.andThen]
 rw [Oper.upon_value]
 go_wp2
 go_end0
 exact ⟨rfl, rfl⟩

theorem builder_check (B b : Nat) (bs : List Value) (w : World) (h : Bld B b bs w) :
   Calls Tryz.prog 209 #[.pointer (some ⟨b, 0, none⟩)] w fun e w' => e = .returned (.tuple #[]) /\ Lib.BuilderAt 224 5 B b (.pointer (some ⟨b, 0, none⟩)) bs w' /\ Below B w w' /\ w'.heap.size = w.heap.size /\ w.grownBy w' (some b) := by
 rcases h with h | h
 . refine (check_fresh b w h.cell0 h.shape h.frozen0).mono ?_
   rintro e w' ⟨rfl, rfl⟩
   exact ⟨rfl, h.used _, (Below.refl B w).setCell (p := ⟨b, 0, none⟩) h.1 _, by simp [World.setCell], ⟨rfl, rfl, rfl, by simp [World.setCell], fun k _ hk => Below.heap_setCell _ _ _ _ (fun e => hk (by simp [e]))⟩⟩
 . refine (check_used b w h.cell0).mono ?_
   rintro e w' ⟨rfl, rfl⟩
   exact ⟨rfl, h, Below.refl B _, rfl, World.grownBy.refl _ _⟩

theorem write_byte (B b : Nat) (bs : List Value) (u : Int) (w : World) (h : Bld B b bs w) (hlen : bs.length + 1 <= 140737488355328) (hBw : B <= w.heap.size) :
   Calls Tryz.prog 166 #[.pointer (some ⟨b, 0, none⟩), .int .u8 u] w fun e w' => e = .returned .nilIface /\ Bld B b (bs ++ [.int .u8 u]) w' /\ Below B w w' := by
 obtain ⟨i0, hi, hz0, hz1, hz2⟩ := info_parts byteInfo
 have C := Hd (builder_check B b bs w h)
 clear h
 go_enter Tryz.func166, Tryz.ntmps166
 go_wp2_with fail
 refine C.out.mono ?_
 rintro e w1 ⟨rfl, ⟨hB, v, hbk, hown, hne⟩, hb1, hs1, -⟩
 have c0 : w1.cell? ⟨b, 0, none⟩ = some (.pointer (some ⟨b, 0, none⟩)) := by rw [Lib.cell_of_heap hbk]; rfl
 have c1 : w1.cell? ⟨b, 1, none⟩ = some v := by rw [Lib.cell_of_heap hbk]; rfl
 have hlt : b < w1.heap.size := by
   rcases Nat.lt_or_ge b w1.heap.size with h' | h'
   . exact h'
   . simp [Array.getElem?_eq_none h'] at hbk
 have HB1 := Hd hb1
 have hBw1 : B <= w1.heap.size := by omega
 have hwl : w.heap.size <= w1.heap.size := by omega
 clear C hb1 hs1
 go_wp2_with (
     at_builtin
     refine wpList_append_own _ rfl _ _ 222 rfl B 5 i0 (.int .u8 0) 1 1 Tryz.underlying222 hi hz0 hz1 hz2 rfl (by decide) _ _ _ rfl (hown.alloc _) ⟨w1.heap.size, 0, none⟩ 1 1 [.int .u8 u] rfl rfl (by
     intro j x hj
     match j, hj with
     | 0, hj => simp at hj; subst hj; simp [Addr.add]) (by intro x hx; simp at hx; subst hx; rfl) (by unfold maxLen; omega) (by omega) (by simp; omega) ?_
     intro v' w2 hown' hgrow hat'
     have hb2 : w2.heap[b]? = some (.cells #[.pointer (some ⟨b, 0, none⟩), v] 224 (0, 0)) := by
      rw [hgrow.block b (by simp; omega) (fun e => hne e.symm), Lib.alloc_old w1 _ b hlt]
      exact hbk
     have d0 : w2.cell? ⟨b, 0, none⟩ = some (.pointer (some ⟨b, 0, none⟩)) := by rw [Lib.cell_of_heap hb2]; rfl
     have d1 : w2.cell? ⟨b, 1, none⟩ = some v := by rw [Lib.cell_of_heap hb2]; rfl
     have f1 : w2.frozen? ⟨b, 1, none⟩ = false := Lib.frozen_of_heap hb2 1
     obtain ⟨g, cap, rfl⟩ : ∃ g cap, v' = .slice (some ⟨g, 0, none⟩) (bs.length + 1) cap := by
      rcases hown'.2 with ⟨_, h0⟩ | ⟨g, cap, cur, hv, _⟩
      . omega
      . exact ⟨g, cap, hv⟩)
 go_ret
 refine ⟨rfl, .inr ?_, ?_⟩
 . exact Lib.BuilderAt.put (T := 224) (e := 5) hB hb2 (bs' := bs ++ [.int .u8 u]) (by simpa using hown') (by decide)
 . exact ((HB1.out.alloc (by omega) _).grown hgrow (by simp; omega) (fun k hk => (hown.lt k hk).1)).setCell (p := ⟨b, 1, none⟩) hB _

theorem write_string (B b : Nat) (bs : List Value) (s : ByteArray) (w : World) (h : Bld B b bs w) (hlen : bs.length + s.size <= 140737488355328) (hBw : B <= w.heap.size) :
   Calls Tryz.prog 167 #[.pointer (some ⟨b, 0, none⟩), .string s] w fun e w' => e = .returned (.tuple #[.int .i64 s.size, .nilIface]) /\ Bld B b (bs ++ Lib.strCells s) w' /\ Below B w w' := by
 obtain ⟨i0, hi, hz0, hz1, hz2⟩ := info_parts byteInfo
 have C := Hd (builder_check B b bs w h)
 clear h
 go_enter Tryz.func167, Tryz.ntmps167
 go_wp2_with fail
 refine C.out.mono ?_
 rintro e w1 ⟨rfl, ⟨hB, v, hbk, hown, hne⟩, hb1, hs1, -⟩
 have c0 : w1.cell? ⟨b, 0, none⟩ = some (.pointer (some ⟨b, 0, none⟩)) := by rw [Lib.cell_of_heap hbk]; rfl
 have c1 : w1.cell? ⟨b, 1, none⟩ = some v := by rw [Lib.cell_of_heap hbk]; rfl
 have hlt : b < w1.heap.size := by
   rcases Nat.lt_or_ge b w1.heap.size with h' | h'
   . exact h'
   . simp [Array.getElem?_eq_none h'] at hbk
 have HB1 := Hd hb1
 have hBw1 : B <= w1.heap.size := by omega
 have hwl : w.heap.size <= w1.heap.size := by omega
 clear C hb1 hs1
 go_wp2_with (
     at_builtin
     refine Lib.wpList_append_own_string _ rfl _ _ 222 9 rfl B 5 i0 Tryz.underlying222 Tryz.underlying9 hi hz0 hz1 hz2 _ _ _ rfl hown s rfl (by unfold maxLen; omega) (by omega) (by omega) ?_
     intro v' w2 hown' hgrow hat'
     have hb2 : w2.heap[b]? = some (.cells #[.pointer (some ⟨b, 0, none⟩), v] 224 (0, 0)) := by
      rw [hgrow.block b hlt (fun e => hne e.symm)]
      exact hbk
     have d0 : w2.cell? ⟨b, 0, none⟩ = some (.pointer (some ⟨b, 0, none⟩)) := by rw [Lib.cell_of_heap hb2]; rfl
     have d1 : w2.cell? ⟨b, 1, none⟩ = some v := by rw [Lib.cell_of_heap hb2]; rfl
     have f1 : w2.frozen? ⟨b, 1, none⟩ = false := Lib.frozen_of_heap hb2 1
     obtain ⟨ao, n', cap, rfl⟩ : ∃ ao n' cap, v' = .slice ao n' cap := by
      rcases hown'.2 with ⟨hv, _⟩ | ⟨g, cap, cur, hv, _⟩
      . exact ⟨_, _, _, hv⟩
      . exact ⟨_, _, _, hv⟩)
 go_ret2
 refine ⟨rfl, .inr ?_, ?_⟩
 . exact Lib.BuilderAt.put (T := 224) (e := 5) hB hb2 (bs' := bs ++ Lib.strCells s) (by simpa [Lib.strCells_length] using hown') (by decide)
 . exact (HB1.out.grown hgrow (by omega) (fun k hk => (hown.lt k hk).1)).setCell (p := ⟨b, 1, none⟩) hB _

def J8 : Nat -> Nat -> List UInt8
 | 0, _ => []
 | k + 1, c => J8 k (c / 10) ++ [UInt8.ofNat (48 + c % 10)]
theorem padN_length : ∀ (k c : Nat), (J8 k c).length = k
 | 0, _ => rfl
 | k + 1, c => by simp [J8, padN_length k]
theorem Ko {v : Nat} (h : 10 <= v) : Lib.decDigits v = Lib.decDigits (v / 10) ++ [UInt8.ofNat (48 + v % 10)] := by
 rw [Lib.decDigits, dif_neg (by omega)]
theorem dec_split : ∀ (k v : Nat), 10 ^ k <= v -> Lib.decDigits v = Lib.decDigits (v / 10 ^ k) ++ J8 k v
 | 0, v, _ => by simp [J8]
 | k + 1, v, h => by
  have e : 10 ^ (k + 1) = 10 * 10 ^ k := by rw [Nat.pow_succ, Nat.mul_comm]
  have hp : 0 < 10 ^ k := Nat.pow_pos (by omega)
  have h10 : 10 <= v := by
   have : 10 * 1 <= 10 * 10 ^ k := Nat.mul_le_mul_left _ hp
   omega
  have hk : 10 ^ k <= v / 10 := by
   rw [Nat.le_div_iff_mul_le (by omega), Nat.mul_comm]; omega
  rw [Ko h10, dec_split k (v / 10) hk, J8, e, Nat.div_div_eq_div_mul, List.append_assoc]
theorem padN_dec : ∀ (k c : Nat), 0 < k -> c < 10 ^ k -> J8 k c = List.replicate (k - (Lib.decDigits c).length) 48 ++ Lib.decDigits c
 | 0, _, h, _ => absurd h (by omega)
 | k + 1, c, _, hc => by
  rw [J8]
  rcases Nat.lt_or_ge c 10 with h | h
  . have e0 : c / 10 = 0 := by omega
    have em : c % 10 = c := by omega
    rw [e0, em, Lib.decDigits_one h]
    have z : ∀ j, J8 j 0 = List.replicate j 48 := by
     intro j
     induction j with
     | zero => rfl
     | succ j ih => rw [J8, Nat.zero_div, ih, List.replicate_succ']; rfl
    rw [z]; simp
  . have hk : 0 < k := by
     rcases Nat.eq_zero_or_pos k with h0 | h0
     . subst h0; simp at hc; omega
     . exact h0
    have hc2 : c / 10 < 10 ^ k := by
     rw [Nat.div_lt_iff_lt_mul (by omega), Nat.mul_comm, <- Nat.pow_succ']; exact hc
    rw [padN_dec k (c / 10) hk hc2, Ko h, List.append_assoc]
    simp
theorem padN_mod (k : Nat) : ∀ (c : Nat), J8 k (c % 10 ^ k) = J8 k c := by
 induction k with
 | zero => intro c; rfl
 | succ k ih =>
  intro c
  rw [J8, J8]
  have e : 10 ^ (k + 1) = 10 * 10 ^ k := by rw [Nat.pow_succ, Nat.mul_comm]
  have e1 : c % 10 ^ (k + 1) / 10 = c / 10 % 10 ^ k := by rw [e, Nat.mod_mul_right_div_self]
  have e2 : c % 10 ^ (k + 1) % 10 = c % 10 := by rw [e, Nat.mod_mul_right_mod]
  rw [e1, e2, ih]
theorem pad9 (c : Nat) (h : c < 1000000000) : J8 9 c = List.replicate (9 - (Lib.decDigits c).length) 48 ++ Lib.decDigits c := padN_dec 9 c (by omega) (by simpa using h)
theorem dec_nine {v : Nat} (h : 1000000000 <= v) : Lib.decDigits v = Lib.decDigits (v / 1000000000) ++ J8 9 (v % 1000000000) := by
 have e : (10 : Nat) ^ 9 = 1000000000 := by decide
 have := dec_split 9 v (by rw [e]; exact h)
 rw [<- padN_mod, e] at this
 exact this
def XM (v : Nat) : List Nat := if h : v = 0 then [] else (v % 1000000000) :: XM (v / 1000000000)
decreasing_by omega
theorem JM : XM 0 = [] := by rw [XM, dif_pos rfl]
theorem Xr {v : Nat} (h : v ≠ 0) : XM v = (v % 1000000000) :: XM (v / 1000000000) := by rw [XM, dif_neg h]
theorem chunks_lt : ∀ (v : Nat), ∀ c ∈ XM v, c < 1000000000 := by
 intro v
 induction v using Nat.strongRecOn with
 | ind v ih =>
  intro c hc
  by_cases h : v = 0
  . subst h; rw [JM] at hc; simp at hc
  . rw [Xr h] at hc
    rcases List.mem_cons.1 hc with rfl | hc
    . omega
    . exact ih _ (by omega) c hc
def Yb : List Nat -> List UInt8
 | [] => []
 | [c] => Lib.decDigits c
 | c :: d :: r => Yb (d :: r) ++ J8 9 c
theorem chunk_text : ∀ (v : Nat), v ≠ 0 -> Yb (XM v) = Lib.decDigits v := by
 intro v
 induction v using Nat.strongRecOn with
 | ind v ih =>
  intro h
  rw [Xr h]
  by_cases h2 : v / 1000000000 = 0
  . rw [h2, JM]
    show Lib.decDigits (v % 1000000000) = _
    rw [Nat.mod_eq_of_lt (by omega)]
  . rw [dec_nine (by omega), <- ih _ (by omega) h2, Xr h2]
    rfl
theorem dec_short : ∀ (k c : Nat), 0 < k -> c < 10 ^ k -> (Lib.decDigits c).length <= k
 | 0, _, h, _ => absurd h (by omega)
 | k + 1, c, _, hc => by
  rcases Nat.lt_or_ge c 10 with h | h
  . rw [Lib.decDigits_one h]; simp
  . have hk : 0 < k := by
     rcases Nat.eq_zero_or_pos k with h0 | h0
     . subst h0; simp at hc; omega
     . exact h0
    have hc2 : c / 10 < 10 ^ k := by
     rw [Nat.div_lt_iff_lt_mul (by omega), Nat.mul_comm, <- Nat.pow_succ']; exact hc
    have := dec_short k (c / 10) hk hc2
    rw [Ko h]; simp; omega
theorem dec_nine_len {c : Nat} (h : c < 1000000000) : (Lib.decDigits c).length <= 9 := dec_short 9 c (by omega) (by simpa using h)
theorem Kr : ∀ (cs : List Nat), (∀ c ∈ cs, c < 1000000000) -> (Yb cs).length <= 9 * cs.length
 | [], _ => by simp [Yb]
 | [c], h => by have := dec_nine_len (h c (by simp)); simp [Yb]; omega
 | c :: d :: r, h => by
  have := Kr (d :: r) (fun x hx => h x (List.mem_cons_of_mem _ hx))
  simp [Yb, padN_length] at *
  omega
theorem chunk_top {cs : List Nat} {m : Nat} (h : m + 1 = cs.length) : Yb (cs.drop m) = Lib.decDigits (cs[m]'(by omega)) := by
 have e : cs.drop m = [cs[m]'(by omega)] := by
  rw [List.drop_eq_getElem_cons (by omega), List.drop_eq_nil_of_le (by omega)]
 rw [e]; rfl
theorem chunk_next {cs : List Nat} {m : Nat} (h : m + 1 < cs.length) : Yb (cs.drop m) = Yb (cs.drop (m + 1)) ++ J8 9 (cs[m]'(by omega)) := by
 have e : cs.drop m = cs[m]'(by omega) :: cs[m + 1]'h :: cs.drop (m + 1 + 1) := by
  rw [List.drop_eq_getElem_cons (by omega), List.drop_eq_getElem_cons h]
 have e2 : cs.drop (m + 1) = cs[m + 1]'h :: cs.drop (m + 1 + 1) := List.drop_eq_getElem_cons h
 rw [e, e2]; rfl

abbrev ZM (w : World) : Prop := Lib.TabIs Tryz.prog w "internal/strconv.uint64pow10" .u64 Lib.pow10Tab
theorem stringInfo : (Tryz.prog.info? 9).map (fun i => (i.zero, i.size, i.bytes)) = some (some (.string ⟨#[]⟩), 1, 16) := by kernel_rfl
def strs (cs : List Nat) : List Value := cs.map fun c => Value.string ⟨(Lib.decDigits c).toArray⟩
structure Dg (w wr : World) (n1 : Bool) (S : Value) (V v : Nat) (cs : List Nat) (pv : Value) (g cap : Nat) : Prop where
 low : Below w.heap.size w wr
 front : Yg wr g cap (Za v)
 hg : w.heap.size + 1 <= g
 parts : wr.ownsRow (w.heap.size + 1) 9 1 pv cs.length (strs cs)
 px : Zr wr w.heap.size 24 (.bool n1) S
 all : XM V = cs ++ XM v
 big : v * 2 ^ (29 * cs.length) <= V
 few : cs.length <= 2000001
theorem Dg.count {w wr : World} {n1 : Bool} {S : Value} {V v L : Nat} {cs : List Nat} {pv : Value} {g cap : Nat} (h : Dg w wr n1 S V v cs pv g cap) (hv : 0 < v) (hV : (Za V).length <= L) : cs.length <= 2 * L := by
 have h1 : V < 2 ^ (32 * L) := by
  have := ZN.1 hV
  rw [show 4294967296 = 2 ^ 32 by decide, <- Nat.pow_mul] at this
  exact this
 have h2 : 2 ^ (29 * cs.length) <= V := Nat.le_trans (Nat.le_mul_of_pos_left _ hv) h.big
 have h3 : 2 ^ (29 * cs.length) < 2 ^ (32 * L) := by omega
 have := (Nat.pow_lt_pow_iff_right (by omega)).1 h3
 omega
theorem big_next {v n V : Nat} (h : v * 2 ^ (29 * n) <= V) : v / 1000000000 * 2 ^ (29 * (n + 1)) <= V := by
 rw [Nat.mul_add, Nat.mul_one, Nat.pow_add]
 generalize 2 ^ (29 * n) = p at *
 have h1 : v / 1000000000 * 2 ^ 29 <= v := by
  have : (2 : Nat) ^ 29 <= 1000000000 := by decide
  calc v / 1000000000 * 2 ^ 29 <= v / 1000000000 * 1000000000 := Nat.mul_le_mul_left _ this
   _ <= v := Nat.div_mul_le_self _ _
 calc v / 1000000000 * (p * 2 ^ 29) = v / 1000000000 * 2 ^ 29 * p := by rw [Nat.mul_comm p, Nat.mul_assoc]
  _ <= v * p := Nat.mul_le_mul_right _ h1
  _ <= V := h

theorem digits_more (n1 : Bool) (A : Option Addr) (c : Nat) (xs : List Nat) (hne : xs ≠ []) (hcx : ZU xs) (hl : xs.length <= 1000000) (z : List UInt8) (HZ : Hid (z = if n1 then 45 :: Lib.decDigits (val xs) else Lib.decDigits (val xs))) (w : World) (h : Zm w A c xs) (htab : ZM w) :
  Calls Tryz.prog 96 #[.agg #[.bool n1, .slice A xs.length c]] w fun e w' => e = .returned (.string ⟨z.toArray⟩) /\ Below w.heap.size w w' := by
 obtain ⟨i0, hi, hz0, hz1, hz2⟩ := info_parts stringInfo
 have px := Zr.new w 24 (.bool n1) (.slice A xs.length c)
 have b0 := (Below.refl w.heap.size w).alloc (Nat.le_refl _) (.cells #[.bool n1, .slice A xs.length c] 24)
 have rx := h.alloc (.cells #[.bool n1, .slice A xs.length c] 24)
 have HT := Hd (Lib.tabBelow_of_tabIs htab)
 obtain ⟨V, hV⟩ : ∃ V, V = val xs := ⟨_, rfl⟩
 have eV : Za V = xs := by rw [hV]; exact YU h.limbs hcx
 have hpV : 0 < V := by
  rcases Nat.eq_zero_or_pos V with h0 | h0
  . rw [h0, Z8] at eV; exact absurd eV.symm hne
  . exact h0
 have HX := Hd h.limbs
 rw [<- hV] at HZ
 clear h htab hV
 go_enter Tryz.func96, Tryz.ntmps96
 obtain ⟨W, E⟩ : ∃ W, W = w.alloc (.cells #[.bool n1, .slice A xs.length c] 24) := ⟨_, rfl⟩
 have hsW : W.heap.size = w.heap.size + 1 := by rw [E]; simp
 have C1 := Hd (JA A c xs (by omega) W (by rw [E]; exact rx))
 go_wp2_with fail
 rw [<- E] at px b0 ⊢
 clear E rx
 refine C1.out.mono ?_
 rintro e w1 ⟨v, rfl, hv, hb1⟩
 obtain ⟨g, cap, rfl, hg, hcap, hf⟩ := hv.front hne
 have H0 := Hd (show Dg w w1 n1 (.slice A xs.length c) V V [] (.slice none 0 0) g cap from
  ⟨Zb b0 hb1, by rw [eV]; exact hf, by omega, World.ownsRow_nil _ _ _ _, px.below hb1, rfl, by simp, by simp⟩)
 have HV := Hd (show (Za V).length <= 1000000 by rw [eV]; exact hl)
 have HC := Hd hcap
 rw [<- eV] at *
 clear px b0 hb1 hv hf hg C1 eV hsW hcap
 go_wp2_with fail
 go_loopg [3, 4] (V) (fun v p l wr => ∃ AP cP cs, p = .slice AP cs.length cP /\ l = .slice (some ⟨g, 0, none⟩) (Za v).length cap /\ Hid (Dg w wr n1 (.slice A (Za V).length c) V v cs (.slice AP cs.length cP) g cap))
 case atStart => exact ⟨none, 0, [], rfl, rfl, H0⟩
 case round =>
  clear H0
  obtain ⟨AP, cP, cs, rfl, rfl, HR⟩ := hrel
  rcases Nat.eq_zero_or_pos gk with h0 | h0
  . subst h0
    have hall := HR.out.all
    rw [JM, List.append_nil] at hall
    have hn0 : (Za 0).length = 0 := by simp [Z8]
    rw [hn0]
    have hcs : cs ≠ [] := fun e => by
     rw [e, Xr (by omega)] at hall
     cases hall
    have hd : ((cs.length : Int) == 0) = false := by
     have : cs.length ≠ 0 := fun e => hcs (List.eq_nil_of_length_eq_zero e)
     simp; omega
    have HALL := Hd hall
    have HCS := Hd hcs
    clear hn0 hall hcs
    have hlt : ∀ c ∈ cs, c < 1000000000 := fun c hc => chunks_lt V c (by rw [HALL.out]; exact hc)
    have hcnt := HR.out.few
    have HLT := Hd hlt
    obtain ⟨l1, x0, x1, -, -⟩ := (HR.out.px.alloc (.cells #[.pointer none, .slice none 0 0] 224)).facts
    obtain ⟨pre, hpre⟩ : ∃ pre : List UInt8, pre = if n1 then [45] else [] := ⟨_, rfl⟩
    have HP := Hd (show z = pre ++ Yb cs by
     rw [HZ.out, hpre, <- HALL.out, chunk_text V (by omega)]; cases n1 <;> simp)
    have HPL := Hd (show pre.length <= 1 by rw [hpre]; cases n1 <;> simp)
    have HLEN := Hd (show ∀ k, (pre ++ Yb (cs.drop k)).length <= 20000000 from fun k => by
     have h1 := Kr (cs.drop k) (fun c hc => hlt c (List.mem_of_mem_drop hc))
     have h2 := HPL.out
     have h3 : (cs.drop k).length <= cs.length := by simp
     rw [List.length_append]; omega)
    have HBf := Hd (Lib.fresh_isBuilder 224 5 wr)
    have HBw := Hd ((Below.refl wr.heap.size wr).alloc (Nat.le_refl _) (.cells #[.pointer none, .slice none 0 0] 224))
    have HRD := Hd (ZD.of_own HR.out.parts)
    have HLW := Hd HR.out.low
    clear hlt HZ HT HX HR
    cases n1
    case' false =>
     simp at hpre
     go_wp2_with fail
     have H2 := Hd (show Bld wr.heap.size wr.heap.size (Lib.byteCells (pre ++ Yb (cs.drop cs.length))) (wr.alloc (.cells #[.pointer none, .slice none 0 0] 224)) /\ Below wr.heap.size wr (wr.alloc (.cells #[.pointer none, .slice none 0 0] 224)) from ⟨by rw [hpre, List.drop_length]; exact HBf.out, HBw.out⟩)
     clear HBf HBw l1 x0 x1 hpre
     obtain ⟨wz, hwz⟩ : ∃ wz : World, wz = wr.alloc (.cells #[.pointer none, .slice none 0 0] 224) := ⟨_, rfl⟩
     rw [<- hwz] at H2 ⊢
     clear hwz
    case' true =>
     have hbwx := HBf.out
     have C3 := Hd (write_byte wr.heap.size wr.heap.size [] 45 _ HBf.out (by simp) (by simp))
     go_wp2_with fail
     refine C3.out.mono ?_
     rintro e wz ⟨rfl, hwb, hbw⟩
     have H2 := Hd (show Bld wr.heap.size wr.heap.size (Lib.byteCells (pre ++ Yb (cs.drop cs.length))) wz /\ Below wr.heap.size wr wz from ⟨by rw [hpre, List.drop_length]; exact hwb, HBw.out.trans hbw⟩)
     clear HBf HBw l1 x0 x1 hpre hwb hbw C3 hbwx
     go_wp2_with fail
    all_goals
     obtain ⟨b, hb⟩ : ∃ b, b = wr.heap.size := ⟨_, rfl⟩
     rw [<- hb] at H2 HRD ⊢
     obtain ⟨wq, hwq⟩ : ∃ wq : World, wq = wr := ⟨_, rfl⟩
     rw [<- hwq] at H2 HRD HLW hb
     clear hwq
     have hlb : ∀ W', Below b wq W' -> b <= W'.heap.size := fun W' h => by have := h.size; omega
     have HLB := Hd hlb
     have HLC := Hd (show ∀ W', Below b wq W' -> Below w.heap.size w W' from fun W' h => Zb HLW.out (by rw [<- hb]; exact h))
     clear hb hlb HLW
     go_loopw [6] (fun s wl => ∃ k : Nat, ∃ i : Int, s = .int .i64 i /\ i = (k : Int) - 1 /\ k <= cs.length /\ Hid (Bld b b (Lib.byteCells (pre ++ Yb (cs.drop k))) wl /\ Below b wq wl)) (fun s _ => (intOf s + 1).toNat)
     case atStart => exact ⟨cs.length, _, rfl, by first | rfl | omega, Nat.le_refl _, H2⟩
     case round =>
       clear H2
       obtain ⟨k, i, rfl, hik, hk, HB⟩ := hrel
       rcases Nat.eq_zero_or_pos k with h0 | h0
       . subst h0
         have hi0 : decide (0 <= i) = false := by simp; omega
         have hbb := HB.out.1
         rw [List.drop_zero, <- HP.out] at hbb
         have C4 := Hd (Tryz.Builder_String_any b b z wr hbb (HLB.out _ HB.out.2))
         clear hik hk
         go_wp2_with fail
         refine C4.out.mono ?_
         rintro e wf ⟨rfl, hbf⟩
         have HFB := Hd (HLC.out _ (HB.out.2.trans hbf))
         clear hbf hbb
         go_wp2_with fail
         go_ret
         exact ⟨rfl, HFB.out⟩
       . obtain ⟨m, rfl⟩ : ∃ m, k = m + 1 := ⟨k - 1, by omega⟩
         have him : i = (m : Int) := by omega
         subst him
         have hm : m < cs.length := by omega
         have hmi : (m : Int) < (cs.length : Int) := by omega
         have hm0 : (0 : Int) <= (m : Int) := by omega
         obtain ⟨ad, u, rfl, had, hu, hcell⟩ := (HRD.out.below HB.out.2).at_ hm
         have hu2 : u = .string ⟨(Lib.decDigits cs[m]).toArray⟩ := by
           have : (strs cs)[m]? = some (.string ⟨(Lib.decDigits cs[m]).toArray⟩) := by simp [strs, hm]
           rw [this] at hu
           exact (Option.some.inj hu).symm
         subst hu2
         obtain ⟨S, hS⟩ : ∃ S : ByteArray, S = ⟨(Lib.decDigits cs[m]).toArray⟩ := ⟨_, rfl⟩
         rw [<- hS] at hcell
         have hS9 : S.size <= 9 := by rw [hS]; exact dec_nine_len (HLT.out _ (List.getElem_mem hm))
         have HS := Hd hS
         have HCELL := Hd (show ∀ W', Below b wq W' -> W'.cell? (ad.add m) = some (.string S) from fun W' h => by
           obtain ⟨ad', u, e, -, h2, h3⟩ := (HRD.out.below h).at_ hm
           injection e with e
           subst e
           have : (strs cs)[m]? = some (.string ⟨(Lib.decDigits cs[m]).toArray⟩) := by simp [strs, hm]
           rw [this] at h2
           rw [h3, <- Option.some.inj h2, hS])
         clear hS hu hik hk h0
         by_cases hlast : m + 1 < cs.length
         . have hd : decide ((m : Int) < (cs.length : Int) - 1) = true := by simp; omega
           have C5 := Hd (write_string b b _ (ByteArray.extract ⟨#[48, 48, 48, 48, 48, 48, 48, 48, 48]⟩ S.size 9) wr HB.out.1 (by
            have := HLEN.out (m + 1)
            have h9 : (ByteArray.extract ⟨#[48, 48, 48, 48, 48, 48, 48, 48, 48]⟩ S.size 9).size <= 9 := by
             rw [Lib.extract_eq]
             show ((List.drop S.size _).take (9 - S.size)).toArray.size <= 9
             rw [List.size_toArray]
             exact Nat.le_trans (List.length_take_le _ _) (by omega)
            rw [Lib.byteCells_length]; omega) (HLB.out _ HB.out.2))
           have HM := Hd hlast
           clear hlast
           go_wp2_with fail
           refine C5.out.mono ?_
           rintro e w2 ⟨rfl, h2, b2⟩
           have hb2 := HB.out.2.trans b2
           have hcell2 := HCELL.out _ hb2
           have h2' : Bld b b (Lib.byteCells (pre ++ Yb (cs.drop (m + 1)) ++ List.replicate (9 - S.size) 48)) w2 := by
            have e : Lib.strCells (ByteArray.extract ⟨#[48, 48, 48, 48, 48, 48, 48, 48, 48]⟩ S.size 9) = Lib.byteCells (List.replicate (9 - S.size) 48) := by
             rw [Lib.extract_eq, Lib.strCells_toArray]
             show Lib.byteCells (((List.replicate 9 48).drop S.size).take (9 - S.size)) = _
             rw [List.drop_replicate, List.take_replicate, Nat.min_self]
            rw [e] at h2
            simpa [Lib.byteCells] using h2
           have C6 := Hd (write_string b b _ S w2 h2' (by
            have := HLEN.out (m + 1)
            rw [Lib.byteCells_length, List.length_append, List.length_replicate]; omega) (HLB.out _ hb2))
           have HB2 := Hd hb2
           clear h2 b2 hb2 h2' hcell C5
           go_wp2_with fail
           refine C6.out.mono ?_
           rintro e w3 ⟨rfl, h3, b3⟩
           have HN := Hd (show Bld b b (Lib.byteCells (pre ++ Yb (cs.drop m))) w3 /\ Below b wq w3 from ⟨by
            rw [chunk_next HM.out, pad9 _ (HLT.out _ (List.getElem_mem hm))]
            rw [HS.out] at h3
            have e : (ByteArray.size ⟨(Lib.decDigits cs[m]).toArray⟩) = (Lib.decDigits cs[m]).length := by simp [ByteArray.size]
            rw [e, Lib.strCells_toArray] at h3
            simpa [Lib.byteCells] using h3, HB2.out.trans b3⟩)
           clear h3 b3 C6 hcell2
           go_wp2_with fail
           go_roundw
           case rel => exact ⟨m, (m : Int) - 1, by go_num, rfl, by omega, HN⟩
           case measure => simp [intOf]
         . have hd : decide ((m : Int) < (cs.length : Int) - 1) = false := by simp; omega
           have C5 := Hd (write_string b b _ S wr HB.out.1 (by
            have := HLEN.out (m + 1)
            rw [Lib.byteCells_length]; omega) (HLB.out _ HB.out.2))
           have HM := Hd (show m + 1 = cs.length by omega)
           clear hlast
           go_wp2_with fail
           refine C5.out.mono ?_
           rintro e w3 ⟨rfl, h3, b3⟩
           have HN := Hd (show Bld b b (Lib.byteCells (pre ++ Yb (cs.drop m))) w3 /\ Below b wq w3 from ⟨by
            rw [chunk_top HM.out]
            rw [HS.out, Lib.strCells_toArray, HM.out, List.drop_length] at h3
            simpa [Lib.byteCells, Yb] using h3, HB.out.2.trans b3⟩)
           clear h3 b3 C5
           go_wp2_with fail
           go_roundw
           case rel => exact ⟨m, (m : Int) - 1, by go_num, rfl, by omega, HN⟩
           case measure => simp [intOf]
  . have hlen : decide (0 < (Za gk).length) = true := decide_eq_true (by
     rcases Nat.eq_zero_or_pos (Za gk).length with e | e
     . have := Ym.1 (List.eq_nil_of_length_eq_zero e)
       omega
     . exact e)
    have hcnt := HR.out.count h0 HV.out
    have C1 := Hd (exact_short g cap cap 1000000000 (Za gk) (by omega) (by omega) (Yt _) (by have := HV.out; have := Yu (show gk <= V from Nat.le_trans (Nat.le_mul_of_pos_right _ (Nat.two_pow_pos _)) HR.out.big); omega) wr HR.out.front)
    rw [Zi] at C1
    go_wp2_with fail
    refine C1.out.mono ?_
    rintro e w2 ⟨rfl, zs', hz1', hz2', hz3', hf', hgr⟩
    have hlow := HR.out.low.trans ((grown_below hgr (Nat.le_trans (Nat.le_succ _) HR.out.hg) HR.out.low.size))
    have hmod : gk % 1000000000 < 1000000000 := Nat.mod_lt _ (by omega)
    have C2 := Hd (Tryz.strconv_Itoa ((gk % 1000000000 : Nat) : Int) (by omega) (by omega) w2 (HT.out _ hlow))
    rw [Lib.itoa_nonneg] at C2
    have hne1 : (Value.slice AP cs.length cP).ownBlock ≠ some g := by
     obtain ⟨rest, -, hbk⟩ := HR.out.front.ex
     exact Xb HR.out.parts hbk (by decide)
    have HOW := Hd (HR.out.parts.kept hgr (Or.inr hne1))
    have HF2 := Hd hf'
    have HLOW := Hd hlow
    have HPX := Hd (HR.out.px.grown hgr (by
     intro e
     injection e with e
     have := HR.out.hg
     omega))
    have HZ' := Hd (show zs'.length = (Za gk).length /\ Zj zs' /\ val zs' = gk / 1000000000 from ⟨hz1', hz2', hz3'⟩)
    have HALL := Hd (And.intro HR.out.all (And.intro HR.out.big HR.out.hg))
    have HNE := Hd hne1
    have HCNT := Hd hcnt
    have HK0 := Hd h0
    clear hz1' hz2' hz3' hf' hgr hlow hne1 C1 HR hcnt hlen h0
    go_wp2_with fail
    refine C2.out.mono ?_
    rintro e w3' ⟨rfl, k', os', hw3⟩
    have hb3 : Below w2.heap.size w2 w3' := by rw [hw3]; exact Lib.below_grow _ _ (Nat.le_refl _) _ _
    have how := Zt HOW.out hb3
    have HF3 := Hd (HF2.out.below hb3)
    have HPX3 := Hd (HPX.out.below hb3)
    have HL3 := Hd (Zb HLOW.out hb3)
    obtain ⟨S, hS⟩ : ∃ S : ByteArray, S = ⟨(Lib.decDigits (gk % 1000000000)).toArray⟩ := ⟨_, rfl⟩
    rw [<- hS]
    have HS := Hd hS
    have hs3 := HL3.out.size
    have hs4 : w.heap.size + 1 <= w3'.heap.size := by have := HF3.out.lt; have := HALL.out.2.2; omega
    have hcn := HCNT.out
    clear hw3 hb3 hS HF2 HPX HLOW HOW C2
    go_wp2_with (
     at_builtin
     refine Zw _ rfl (.tmp 15) (.tmp 20) _ rfl (w.heap.size + 1) 9 i0 _ 1 16 Tryz.underlying124 hi hz0 hz1 hz2 rfl (by omega) (.slice AP cs.length cP) cs.length (strs cs) rfl (how.alloc _) (w3'.heap.size + 1) (some ⟨w3'.heap.size, 0, none⟩) 1 1 [.string S] rfl (ZD.new1 w3' _ 1 _ rfl) (by intro x hx; simp at hx; subst hx; rfl) (by unfold maxLen; omega) (by omega) (by simp; omega) ?_
     intro v' w4 ho hg4 hat
     obtain ⟨A5, c5, rfl⟩ := Xh (by omega) ho
     have HF4 := Hd ((HF3.out.alloc (.cells #[.string S] 9)).stays hg4 (fun e => HNE.out e.symm))
     have HPX4 := Hd ((HPX3.out.alloc (.cells #[.string S] 9)).grown hg4 (fun e => by
       have := (how.lt _ e.symm).1
       omega))
     have HL4 := Hd ((HL3.out.alloc (by omega) (.cells #[.string S] 9)).grown hg4 (by simp; omega) (fun k hk => by have := (how.lt k hk).1; omega))
     have HO4 := Hd ho
     clear ho hg4 hat)
    have C3 := JL (some ⟨g, 0, none⟩) cap zs' HZ'.out.2.1 HF4.out.fits HC.out w4.heap.size w4 HF4.out.reads
    rw [HZ'.out.1, HZ'.out.2.2] at C3
    have H3 := Hd C3
    have HFN := Hd (show Yg w4 g cap (Za (gk / 1000000000)) from by
     have := HF4.out.cut (Za (val zs')).length
     rw [<- Y3 HZ'.out.2.1, HZ'.out.2.2] at this
     exact this)
    have HN := Hd (show Dg w w4 n1 (.slice A (Za V).length c) V (gk / 1000000000) (cs ++ [gk % 1000000000]) (.slice A5 (cs.length + 1) c5) g cap from
     ⟨HL4.out, HFN.out, HALL.out.2.2, by
       have e : strs (cs ++ [gk % 1000000000]) = strs cs ++ [.string S] := by rw [HS.out]; simp [strs]
       rw [e, List.length_append, List.length_singleton]; exact HO4.out, HPX4.out, by
       rw [HALL.out.1, Xr (by have := HK0.out; omega)]; simp, by
       rw [List.length_append, List.length_singleton]; exact big_next HALL.out.2.1, by
       rw [List.length_append, List.length_singleton]; have := HCNT.out; omega⟩)
    have HM := Hd (show gk / 1000000000 < gk from Nat.div_lt_self HK0.out (by omega))
    clear C3 HF4 HPX4 HL4 HO4 HFN HALL HS HZ' how hs3 hs4 hcn HNE HF3 HPX3 HL3 hmod
    go_wp2_with fail
    refine H3.out.mono ?_
    rintro e w5 ⟨rfl, rfl⟩
    go_wp2_with fail
    go_roundg (gk / 1000000000)
    case measure => exact HM.out
    case rel => exact ⟨A5, c5, cs ++ [gk % 1000000000], by simp, rfl, by simpa using HN⟩

theorem digits_nought (n1 : Bool) (A : Option Addr) (c : Nat) (w : World) (h : Zm w A c []) :
  Calls Tryz.prog 96 #[.agg #[.bool n1, .slice A ([] : List Nat).length c]] w fun e w' => e = .returned (.string ⟨#[48]⟩) /\ Below w.heap.size w w' := by
 have b0 := (Below.refl w.heap.size w).alloc (Nat.le_refl _) (.cells #[.bool n1, .slice A ([] : List Nat).length c] 24)
 have rx := h.alloc (.cells #[.bool n1, .slice A ([] : List Nat).length c] 24)
 clear h
 go_enter Tryz.func96, Tryz.ntmps96
 have C1 := Hd (JA A c [] (by simp) _ rx)
 have HB := Hd b0
 clear rx b0
 go_wp2_with fail
 refine C1.out.mono ?_
 rintro e w1 ⟨v, rfl, hv, hb1⟩
 obtain ⟨A1, c1, rfl, -⟩ := hv.form
 have HF := Hd (Zb HB.out hb1)
 clear hv hb1 C1
 go_wp2_with fail
 go_loop [3, 4] (fun p l => p = .slice none 0 0 /\ l = .slice A1 0 c1) (fun _ _ => 0)
 case atStart => exact ⟨rfl, rfl⟩
 case round =>
  obtain ⟨rfl, rfl⟩ := hrel
  go_wp2_with fail
  go_ret
  exact ⟨rfl, HF.out⟩
theorem exact_Digits (n1 : Bool) (A : Option Addr) (c : Nat) (xs : List Nat) (hcx : ZU xs) (hl : xs.length <= 1000000) (w : World) (h : Zm w A c xs) (htab : ZM w) :
   Calls Tryz.prog 96 #[.agg #[.bool n1, .slice A xs.length c]] w fun e w' => e = .returned (.string ⟨(Lib.itoa (Zv n1 xs)).toArray⟩) /\ Below w.heap.size w w' := by
 by_cases hx : xs = []
 . subst hx
   have e : Lib.itoa (Zv n1 []) = [48] := by
     have : Zv n1 [] = ((0 : Nat) : Int) := by unfold Zv; cases n1 <;> rfl
     rw [this, Lib.itoa_nonneg, Lib.decDigits_one (by omega)]; rfl
   rw [e]
   exact digits_nought n1 A c w h
 . refine digits_more n1 A c xs hx hcx hl _ (Hd ?_) w h htab
   have hp : 0 < val xs := by
     rcases Nat.eq_zero_or_pos (val xs) with h0 | h0
     . have := YU h.limbs hcx
       rw [h0, Z8] at this
       exact absurd this.symm hx
     . exact h0
   unfold Zv
   cases n1
   . simp [Lib.itoa_nonneg]
   . simp only [if_true]
     rw [Lib.itoa_neg _ hp]

theorem ZM.below2 {w w' : World} (h : ZM w) (hb : Below w.heap.size w w') : ZM w' := Lib.tabBelow_of_tabIs h w' hb
theorem dec_fit_any (k : Nat) (hk : 0 < k) {x : Nat} (h : (Za x).length <= k) : (Lib.decDigits x).length <= 32 * k := by
 refine dec_short (32 * k) x (by omega) ?_
 have h1 : x < 2 ^ (32 * k) := by
  have := ZN.1 h
  rw [show 4294967296 = 2 ^ 32 by decide, <- Nat.pow_mul] at this
  exact this
 exact Nat.lt_of_lt_of_le h1 (Nat.pow_le_pow_left (by decide) _)
theorem dec_fit {x : Nat} (h : (Za x).length <= 2048) : (Lib.decDigits x).length <= 65536 := dec_fit_any 2048 (by omega) h
theorem itoa_fit {x : Int} (h : Fit x) : (Lib.itoa x).length <= 65537 := by
 have := dec_fit (x := x.natAbs) h
 unfold Lib.itoa
 split
 . simp; omega
 . rw [show x.toNat = x.natAbs by omega]; omega
def Zk (n d : Int) : List UInt8 := if d = 1 then Lib.itoa n else Lib.itoa n ++ 47 :: Lib.itoa d

theorem ratio_Digits_one (n d : Int) (A B : Option Addr) (c e0 : Nat) (w : World) (h_x : Zm w A c (Za n.natAbs)) (k_x : Zm w B e0 (Za d.natAbs)) (htab : ZM w) (hn : Fit n) (hd : Fit d) (hd1 : d = 1) :
   Calls Tryz.prog 22 #[.agg #[.bool (decide (n < 0)), .slice A (Za n.natAbs).length c, .bool (decide (d < 0)), .slice B (Za d.natAbs).length e0]] w fun e w' => e = .returned (.string ⟨(Zk n d).toArray⟩) /\ Below w.heap.size w w' := by
 have HTW := Hd htab
 obtain ⟨one, hone⟩ : ∃ k : Int, k = 1 := ⟨_, rfl⟩
 obtain ⟨k, hk⟩ : ∃ k : Int, k = Jt d one := ⟨_, rfl⟩
 have H1 := Hd hone
 have HK := Hd hk
 have hnl : lz n <= 2048 := hn
 have hdl : lz d <= 2048 := hd
 have hol : lz one <= 2048 := by rw [hone]; decide
 have C3 := Hd (fun (V : World) (h : Zm V A c (Za n.natAbs)) (htab : ZM V) => exact_Digits (decide (n < 0)) A c _ (ZB _) (by unfold lz at hnl; omega) V h htab)
 simp only [YV] at C3
 have hk0 : k = 0 := by rw [hk, hone, hd1]; decide
 have HD := Hd (show Zk n d = Lib.itoa n from if_pos hd1)
 obtain ⟨t1, ht1⟩ : ∃ t : ByteArray, t = ⟨(Lib.itoa n).toArray⟩ := ⟨_, rfl⟩
 rw [<- ht1] at C3
 have HT1 := Hd ht1
 clear htab hone hk hn hd hd1 ht1
 have b0 := ((Below.refl w.heap.size w).alloc (Nat.le_refl _) (.cells #[.bool (decide (n < 0)), .slice A (Za n.natAbs).length c, .bool (decide (d < 0)), .slice B (Za d.natAbs).length e0] 26))
 have p0 := Zz.new w (.bool (decide (n < 0))) (.slice A (Za n.natAbs).length c) (.bool (decide (d < 0))) (.slice B (Za d.natAbs).length e0)
 have V_x := Hd (FV.mk p0 (h_x.below b0) (k_x.below b0))
 have KW_x := Hd k_x
 have RW_x := Hd h_x
 have HBW := Hd b0
 clear b0 p0 h_x k_x
 go_enter Tryz.func22, Tryz.ntmps22
 obtain ⟨W, E⟩ : ∃ W, W = (w.alloc (.cells #[.bool (decide (n < 0)), .slice A (Za n.natAbs).length c, .bool (decide (d < 0)), .slice B (Za d.natAbs).length e0] 26)) := ⟨_, rfl⟩
 go_upto_region 1 with fail
 rw [<- E] at V_x HBW ⊢
 clear E
 have HT := Hd (HTW.out.below2 HBW.out)
 clear HTW
 subst hk0
 refine Zd [.val (.pointer (some ⟨w.heap.size, 2, none⟩)) [], .val (.agg #[.bool (decide (d < 0)), .slice B (Za d.natAbs).length e0]) [], .any false (fun u V => XS V u one) [], .val (.int .i64 0) [2], .val (.bool true) []] W.heap.size W [] X6 _ Zf (Nat.le_refl _) (Below.refl _ _) (Zu.refl _ _ _) rfl ?_ ?_ ?_ ?_ ?_ ?_ ?_ ?_ rfl (by simp [ZP]) ?_ ?_ ?_ ?_
 iterate 8 kernel_rfl
 . simp only [Zy, and_true]
   exact fun u V V' h k => h.keptNone k
 . simp only [Z5]
 . simp (maxSteps := 4000000) [ZH, YD, Zg, ZF, Zn]
   repeat' (first | apply And.intro | (intro (u : Value)) | (intro (u : Nat)))
   all_goals first
   | (intro V hV hK
      have qx := (V_x.out.below hV).quad
      obtain ⟨-, a_x, b_x, c_x, d_x, -, -, -, -⟩ := qx.facts
      clear hV hK qx
      go_simp
      first
      | exact Below.refl _ _
      | ((with_reducible refine (eof 1 one H1.out (by decide) (by decide) V).mono ?_); rintro _ _ ⟨_, rfl, x, y⟩; exact ⟨x.at_, y⟩))
   | (intro V hV hK h1
      have rg := (V_x.out.below hV).den
      obtain ⟨A5, c5, rfl, r5⟩ := h1.form
      clear hV hK h1
      go_simp
      refine (ecmp d one 0 B A5 e0 c5 V rg r5 (by omega) (by omega) HK.out).mono ?_
      rintro e w' ⟨rfl, hb⟩
      exact ⟨rfl, hb⟩)
 . simp [YH, ZK, Zg, ZF, Zn]
   intro u1 V hV hK _ _ _ _
   have HBW := Hd (HBW.out.trans (hV.mono HBW.out.size))
   have V_x := Hd (V_x.out.below hV)
   have HT := Hd (HT.out.below2 hV)
   clear hV hK
   obtain ⟨l_x, a_x, b_x, c_x, d_x, -, -, -, -⟩ := V_x.out.quad.facts
   go_wp2_with fail
   refine (C3.out V V_x.out.num HT.out).mono ?_
   rintro e w9 ⟨rfl, hb⟩
   have HF := Hd (Zb HBW.out hb)
   clear l_x a_x b_x c_x d_x hb
   go_wp2_with fail
   go_ret
   exact ⟨by rw [HD.out, <- HT1.out]; rfl, HF.out⟩

theorem ratio_Digits_more (n d : Int) (A B : Option Addr) (c e0 : Nat) (w : World) (h_x : Zm w A c (Za n.natAbs)) (k_x : Zm w B e0 (Za d.natAbs)) (htab : ZM w) (hn : Fit n) (hd : Fit d) (hd1 : d ≠ 1) :
   Calls Tryz.prog 22 #[.agg #[.bool (decide (n < 0)), .slice A (Za n.natAbs).length c, .bool (decide (d < 0)), .slice B (Za d.natAbs).length e0]] w fun e w' => e = .returned (.string ⟨(Zk n d).toArray⟩) /\ Below w.heap.size w w' := by
 have HTW := Hd htab
 obtain ⟨one, hone⟩ : ∃ k : Int, k = 1 := ⟨_, rfl⟩
 obtain ⟨k, hk⟩ : ∃ k : Int, k = Jt d one := ⟨_, rfl⟩
 have H1 := Hd hone
 have HK := Hd hk
 have hnl : lz n <= 2048 := hn
 have hdl : lz d <= 2048 := hd
 have hol : lz one <= 2048 := by rw [hone]; decide
 have C3 := Hd (fun (V : World) (h : Zm V A c (Za n.natAbs)) (htab : ZM V) => exact_Digits (decide (n < 0)) A c _ (ZB _) (by unfold lz at hnl; omega) V h htab)
 simp only [YV] at C3
 have C4 := Hd (fun (V : World) (h : Zm V B e0 (Za d.natAbs)) (htab : ZM V) => exact_Digits (decide (d < 0)) B e0 _ (ZB _) (by unfold lz at hdl; omega) V h htab)
 simp only [YV] at C4
 have hk0 : k ≠ 0 := by rw [hk, hone]; unfold Jt; split <;> (try split) <;> omega
 have hs0 : (k == 0) = false := by simpa using hk0
 have HD := Hd (show Zk n d = Lib.itoa n ++ 47 :: Lib.itoa d from if_neg hd1)
 have f1 := itoa_fit hn
 have f2 := itoa_fit hd
 obtain ⟨t1, ht1⟩ : ∃ t : ByteArray, t = ⟨(Lib.itoa n).toArray⟩ := ⟨_, rfl⟩
 obtain ⟨t2, ht2⟩ : ∃ t : ByteArray, t = ⟨(Lib.itoa d).toArray⟩ := ⟨_, rfl⟩
 have g1 : t1.size <= 65537 := by rw [ht1]; simpa [ByteArray.size] using f1
 have g2 : t2.size <= 65537 := by rw [ht2]; simpa [ByteArray.size] using f2
 obtain ⟨t3, ht3⟩ : ∃ t : ByteArray, t = t1 ++ ⟨#[47]⟩ := ⟨_, rfl⟩
 have g3 : t3.size = t1.size + 1 := by rw [ht3]; simp [ByteArray.size_append]; rfl
 have HC1 := Hd (show ¬ 9223372036854775807 < t1.size + 1 from by omega)
 have HC2 := Hd (show ¬ 9223372036854775807 < t3.size + t2.size from by omega)
 have HC3 := Hd ht3
 have HTT := Hd (show t3 ++ t2 = ⟨(Zk n d).toArray⟩ from by rw [HD.out, ht3, ht1, ht2, ByteArray.mk_append_mk, ByteArray.mk_append_mk]; simp)
 rw [<- ht1] at C3
 rw [<- ht2] at C4
 clear htab hone hk hn hd hd1 ht1 ht2 ht3 f1 f2 g1 g2 g3 HD hk0
 have b0 := ((Below.refl w.heap.size w).alloc (Nat.le_refl _) (.cells #[.bool (decide (n < 0)), .slice A (Za n.natAbs).length c, .bool (decide (d < 0)), .slice B (Za d.natAbs).length e0] 26))
 have p0 := Zz.new w (.bool (decide (n < 0))) (.slice A (Za n.natAbs).length c) (.bool (decide (d < 0))) (.slice B (Za d.natAbs).length e0)
 have V_x := Hd (FV.mk p0 (h_x.below b0) (k_x.below b0))
 have KW_x := Hd k_x
 have RW_x := Hd h_x
 have HBW := Hd b0
 clear b0 p0 h_x k_x
 go_enter Tryz.func22, Tryz.ntmps22
 obtain ⟨W, E⟩ : ∃ W, W = (w.alloc (.cells #[.bool (decide (n < 0)), .slice A (Za n.natAbs).length c, .bool (decide (d < 0)), .slice B (Za d.natAbs).length e0] 26)) := ⟨_, rfl⟩
 go_upto_region 1 with fail
 rw [<- E] at V_x HBW ⊢
 clear E
 have HT := Hd (HTW.out.below2 HBW.out)
 clear HTW
 refine Zd [.val (.pointer (some ⟨w.heap.size, 2, none⟩)) [], .val (.agg #[.bool (decide (d < 0)), .slice B (Za d.natAbs).length e0]) [], .any false (fun u V => XS V u one) [], .val (.int .i64 k) [2], .val (.bool false) []] W.heap.size W [] X6 _ Zf (Nat.le_refl _) (Below.refl _ _) (Zu.refl _ _ _) rfl ?_ ?_ ?_ ?_ ?_ ?_ ?_ ?_ rfl (by simp [ZP]) ?_ ?_ ?_ ?_
 iterate 8 kernel_rfl
 . simp only [Zy, and_true]
   exact fun u V V' h k => h.keptNone k
 . simp only [Z5]
 . simp (maxSteps := 4000000) [ZH, YD, Zg, ZF, Zn]
   repeat' (first | apply And.intro | (intro (u : Value)) | (intro (u : Nat)))
   all_goals first
   | (intro V hV hK
      have qx := (V_x.out.below hV).quad
      obtain ⟨-, a_x, b_x, c_x, d_x, -, -, -, -⟩ := qx.facts
      clear hV hK qx
      go_simp
      first
      | exact Below.refl _ _
      | ((with_reducible refine (eof 1 one H1.out (by decide) (by decide) V).mono ?_); rintro _ _ ⟨_, rfl, x, y⟩; exact ⟨x.at_, y⟩))
   | (intro V hV hK h1
      have rg := (V_x.out.below hV).den
      obtain ⟨A5, c5, rfl, r5⟩ := h1.form
      clear hV hK h1
      go_simp
      refine (ecmp d one k B A5 e0 c5 V rg r5 (by omega) (by omega) HK.out).mono ?_
      rintro e w' ⟨rfl, hb⟩
      exact ⟨rfl, hb⟩)
 . simp [YH, ZK, Zg, ZF, Zn]
   intro u1 V hV hK _ _ _ _
   have HBW := Hd (HBW.out.trans (hV.mono HBW.out.size))
   have V_x := Hd (V_x.out.below hV)
   have HT := Hd (HT.out.below2 hV)
   have hV1 := HBW.out.size
   clear hV hK
   clear hs0
   go_wp2_with fail
   refine Zd [.val (.pointer (some ⟨w.heap.size, 0, none⟩)) [], .val (.agg #[.bool (decide (n < 0)), .slice A (Za n.natAbs).length c]) [], .val (.string t1) [], .val (.string t3) [], .val (.pointer (some ⟨w.heap.size, 2, none⟩)) [], .val (.agg #[.bool (decide (d < 0)), .slice B (Za d.natAbs).length e0]) [], .val (.string t2) [], .val (.string (t3 ++ t2)) [], .val (.string (t3 ++ t2)) []] V.heap.size V [] X6 _ Zf (Nat.le_refl _) (Below.refl _ _) (Zu.refl _ _ _) rfl ?_ ?_ ?_ ?_ ?_ ?_ ?_ ?_ rfl (by simp [ZP]) ?_ ?_ ?_ ?_
   iterate 8 kernel_rfl
   . simp only [Zy]
   . simp only [Z5]
   . simp (maxSteps := 4000000) [ZH, YD, Zg, ZF, Zn]
     repeat' (first | apply And.intro | (intro (u : Value)) | (intro (u : Nat)))
     all_goals first
     | (intro V' hV hK
        have qx := V_x.out.below hV
        have ht := HT.out.below2 hV
        obtain ⟨-, a_x, b_x, c_x, d_x, -, -, -, -⟩ := qx.quad.facts
        clear hV hK
        go_simp
        first
        | exact Below.refl _ _
        | (rw [if_neg HC1.out, <- HC3.out]; go_simp; exact Below.refl _ _)
        | (rw [if_neg HC2.out]; go_simp; exact Below.refl _ _)
        | ((with_reducible refine (C3.out V' qx.num ht).mono ?_); rintro e w' ⟨rfl, hb⟩; exact ⟨rfl, hb⟩)
        | ((with_reducible refine (C4.out V' qx.den ht).mono ?_); rintro e w' ⟨rfl, hb⟩; exact ⟨rfl, hb⟩))
   . simp [YH, ZK, Zg, ZF, Zn]
     intro V' hV hK _ _ _
     have HF := Hd (HBW.out.trans (hV.mono hV1))
     clear hV hK hV1
     go_wp2_with fail
     go_ret
     exact ⟨by rw [<- HTT.out]; rfl, HF.out⟩

theorem ratio_Digits (n d : Int) (A B : Option Addr) (c e0 : Nat) (w : World) (h : Zm w A c (Za n.natAbs)) (g : Zm w B e0 (Za d.natAbs)) (htab : ZM w) (hn : Fit n) (hd : Fit d) :
   Calls Tryz.prog 22 #[.agg #[.bool (decide (n < 0)), .slice A (Za n.natAbs).length c, .bool (decide (d < 0)), .slice B (Za d.natAbs).length e0]] w fun e w' => e = .returned (.string ⟨(Zk n d).toArray⟩) /\ Below w.heap.size w w' := by
 by_cases h1 : d = 1
 . exact ratio_Digits_one n d A B c e0 w h g htab hn hd h1
 . exact ratio_Digits_more n d A B c e0 w h g htab hn hd h1

theorem ratio_Sign (n s : Int) (d : Int) (A B : Option Addr) (c e0 : Nat) (w : World) (h : Zm w A c (Za n.natAbs)) (hs : s = n.sign) :
  Calls Tryz.prog 21 #[.agg #[.bool (decide (n < 0)), .slice A (Za n.natAbs).length c, .bool (decide (d < 0)), .slice B (Za d.natAbs).length e0]] w fun e w' => e = .returned (.int .i64 s) /\ Below w.heap.size w w' := by
 have px := Zz.new w (.bool (decide (n < 0))) (.slice A (Za n.natAbs).length c) (.bool (decide (d < 0))) (.slice B (Za d.natAbs).length e0)
 have b0 := (Below.refl w.heap.size w).alloc (Nat.le_refl _) (.cells #[.bool (decide (n < 0)), .slice A (Za n.natAbs).length c, .bool (decide (d < 0)), .slice B (Za d.natAbs).length e0] 26)
 have C := Hd (esign n s A c _ (h.below b0) hs)
 have B0 := Hd b0
 obtain ⟨-, x0, x1, x2, x3, -, -, -, -⟩ := px.facts
 clear h hs px b0
 go_enter Tryz.func21, Tryz.ntmps21
 go_wp2_with fail
 refine C.out.mono ?_
 rintro e w1 ⟨rfl, hb⟩
 have HF := Hd (Zb B0.out hb)
 clear x0 x1 x2 x3 hb
 go_wp2_with fail
 go_ret
 exact ⟨rfl, HF.out⟩


theorem frac_size (n1 n2 : Bool) (A B : Option Addr) (c e0 : Nat) (xs ys : List Nat) (hx : xs.length <= 1152921504606846975) (hy : ys.length <= 1152921504606846975) (w : World) :
   Calls Tryz.prog 89 #[.agg #[.bool n1, .slice A xs.length c, .bool n2, .slice B ys.length e0]] w fun e w' => e = .returned (.int .i64 ((1 + xs.length + (1 + ys.length) : Nat) : Int)) /\ Below w.heap.size w w' := by
 have D1 := fun V => intSize_any n1 A c xs.length hx V
 have D2 := fun V => intSize_any n2 B e0 ys.length hy V
 obtain ⟨s1, hs1⟩ : ∃ k : Nat, k = 1 + xs.length := ⟨_, rfl⟩
 obtain ⟨s2, hs2⟩ : ∃ k : Nat, k = 1 + ys.length := ⟨_, rfl⟩
 rw [<- hs1] at D1 ⊢
 rw [<- hs2] at D2 ⊢
 obtain ⟨s3, hs3⟩ : ∃ k : Nat, k = s1 + s2 := ⟨_, rfl⟩
 rw [<- hs3]
 have HW := Hd (show IntKind.i64.wrap ((s1 : Int) + (s2 : Int)) = (s3 : Int) from by rw [IntKind.wrap_i64]; omega)
 have H1 := Hd D1
 have H2 := Hd D2
 clear D1 D2 hx hy hs1 hs2 hs3
 have px := Zz.new w (.bool n1) (.slice A xs.length c) (.bool n2) (.slice B ys.length e0)
 have b0 := (Below.refl w.heap.size w).alloc (Nat.le_refl _) (.cells #[.bool n1, .slice A xs.length c, .bool n2, .slice B ys.length e0] 26)
 have PX := Hd px
 have HB := Hd b0
 clear px b0
 go_enter Tryz.func89, Tryz.ntmps89
 go_wp2_with fail
 obtain ⟨W, E⟩ : ∃ W, W = w.alloc (.cells #[.bool n1, .slice A xs.length c, .bool n2, .slice B ys.length e0] 26) := ⟨_, rfl⟩
 rw [<- E] at PX HB ⊢
 clear E
 refine Zd [.val (.pointer (some ⟨w.heap.size, 0, none⟩)) [], .val (.agg #[.bool n1, .slice A xs.length c]) [], .val (.int .i64 s1) [], .val (.pointer (some ⟨w.heap.size, 2, none⟩)) [], .val (.agg #[.bool n2, .slice B ys.length e0]) [], .val (.int .i64 s2) [], .val (.int .i64 s3) [], .val (.int .i64 s3) []] W.heap.size W [] X6 _ Zf (Nat.le_refl _) (Below.refl _ _) (Zu.refl _ _ _) rfl ?_ ?_ ?_ ?_ ?_ ?_ ?_ ?_ rfl (by simp [ZP]) ?_ ?_ ?_ ?_
 iterate 8 kernel_rfl
 . simp only [Zy]
 . simp only [Z5]
 . simp (maxSteps := 4000000) [ZH, YD, Zg, ZF, Zn]
   repeat' (first | apply And.intro | (intro (u : Value)) | (intro (u : Nat)))
   all_goals
    intro V hV hK
    obtain ⟨-, a_x, b_x, c_x, d_x, -, -, -, -⟩ := (PX.out.below hV).facts
    clear hV hK
    go_simp
    first
    | exact Below.refl _ _
    | exact ⟨HW.out, Below.refl _ _⟩
    | ((with_reducible refine (H1.out V).mono ?_); rintro e w' ⟨rfl, hb⟩; exact ⟨rfl, hb⟩)
    | ((with_reducible refine (H2.out V).mono ?_); rintro e w' ⟨rfl, hb⟩; exact ⟨rfl, hb⟩)
 . simp [YH, ZK, Zg, ZF, Zn]
   intro V hV hK _ _ _
   have HB := Hd (Zb HB.out hV)
   clear hV hK
   go_wp2_with fail
   go_ret
   exact ⟨rfl, HB.out⟩

def fcost (a b : Nat) : Nat := 1 + a + (1 + b) + costN a b
theorem fcost_le {a b : Nat} (ha : a <= 1152921504606846975) (hb : b <= 1152921504606846975) : fcost a b <= 2305913377957871618 := by
 have := costN_le a b
 unfold fcost
 omega

theorem frac_cost (n1 n2 : Bool) (A B : Option Addr) (c e0 : Nat) (xs ys : List Nat) (hx : xs.length <= 1152921504606846975) (hy : ys.length <= 1152921504606846975) (w : World) (h : Zm w A c xs) (g : Zm w B e0 ys) :
   Calls Tryz.prog 18 #[.agg #[.bool n1, .slice A xs.length c, .bool n2, .slice B ys.length e0]] w fun e w' => e = .returned (.int .i64 (fcost xs.length ys.length : Nat)) /\ Below w.heap.size w w' := by
 have D1 := fun V => frac_size n1 n2 A B c e0 xs ys hx hy V
 have D2 := fun (V : World) (h : Zm V A c xs) (g : Zm V B e0 ys) => cost_low n1 n2 A B c e0 xs ys V h g
 rw [costLow_N] at D2
 have hc := costN_le xs.length ys.length
 obtain ⟨s1, hs1⟩ : ∃ k : Nat, k = 1 + xs.length + (1 + ys.length) := ⟨_, rfl⟩
 obtain ⟨s2, hs2⟩ : ∃ k : Nat, k = costN xs.length ys.length := ⟨_, rfl⟩
 obtain ⟨s3, hs3⟩ : ∃ k : Nat, k = fcost xs.length ys.length := ⟨_, rfl⟩
 have e3 : s3 = s1 + s2 := by rw [hs3, hs1, hs2]; rfl
 rw [<- hs1] at D1
 rw [<- hs2] at D2 hc
 rw [<- hs3]
 have HW := Hd (show IntKind.i64.wrap ((s1 : Int) + (s2 : Int)) = (s3 : Int) from by rw [IntKind.wrap_i64]; omega)
 have H1 := Hd D1
 have H2 := Hd D2
 clear D1 D2 hx hy hs1 hs2 hs3 e3 hc
 have px := Zz.new w (.bool n1) (.slice A xs.length c) (.bool n2) (.slice B ys.length e0)
 have b0 := (Below.refl w.heap.size w).alloc (Nat.le_refl _) (.cells #[.bool n1, .slice A xs.length c, .bool n2, .slice B ys.length e0] 26)
 have rx := Hd (h.below b0)
 have ry := Hd (g.below b0)
 clear h g
 have PX := Hd px
 have HB := Hd b0
 clear px b0
 go_enter Tryz.func18, Tryz.ntmps18
 go_wp2_with fail
 obtain ⟨W, E⟩ : ∃ W, W = w.alloc (.cells #[.bool n1, .slice A xs.length c, .bool n2, .slice B ys.length e0] 26) := ⟨_, rfl⟩
 rw [<- E] at PX HB rx ry ⊢
 clear E
 refine Zd [.val (.agg #[.bool n1, .slice A xs.length c, .bool n2, .slice B ys.length e0]) [], .val (.int .i64 s1) [], .val (.pointer (some ⟨w.heap.size, 0, none⟩)) [], .val (.agg #[.bool n1, .slice A xs.length c]) [], .val (.pointer (some ⟨w.heap.size, 2, none⟩)) [], .val (.agg #[.bool n2, .slice B ys.length e0]) [], .val (.int .i64 s2) [], .val (.int .i64 s3) [], .val (.int .i64 s3) []] W.heap.size W [] X6 _ Zf (Nat.le_refl _) (Below.refl _ _) (Zu.refl _ _ _) rfl ?_ ?_ ?_ ?_ ?_ ?_ ?_ ?_ rfl (by simp [ZP]) ?_ ?_ ?_ ?_
 iterate 8 kernel_rfl
 . simp only [Zy]
 . simp only [Z5]
 . simp (maxSteps := 4000000) [ZH, YD, Zg, ZF, Zn]
   repeat' (first | apply And.intro | (intro (u : Value)) | (intro (u : Nat)))
   all_goals
    intro V hV hK
    obtain ⟨-, a_x, b_x, c_x, d_x, -, -, -, -⟩ := (PX.out.below hV).facts
    have r1 := rx.out.below hV
    have r2 := ry.out.below hV
    clear hV hK
    go_simp
    first
    | exact Below.refl _ _
    | exact ⟨HW.out, Below.refl _ _⟩
    | ((with_reducible refine (H1.out V).mono ?_); rintro e w' ⟨rfl, hb⟩; exact ⟨rfl, hb⟩)
    | ((with_reducible refine (H2.out V r1 r2).mono ?_); rintro e w' ⟨rfl, hb⟩; exact ⟨rfl, hb⟩)
 . simp [YH, ZK, Zg, ZF, Zn]
   intro V hV hK _ _ _
   have HB := Hd (Zb HB.out hV)
   clear hV hK
   go_wp2_with fail
   go_ret
   exact ⟨rfl, HB.out⟩

structure TwinI (neg : Bool) (xs : List Nat) (v : Value) (V : World) : Prop where
 form : ∃ g, v = .agg #[.bool neg, .slice (some ⟨g, 0, none⟩) xs.length (xs.length + 1)] /\ Z0 V g xs
structure TwinF (n1 n2 : Bool) (xs ys : List Nat) (v : Value) (V : World) : Prop where
 form : ∃ g1 g2, v = .agg #[.bool n1, .slice (some ⟨g1, 0, none⟩) xs.length (xs.length + 1), .bool n2, .slice (some ⟨g2, 0, none⟩) ys.length (ys.length + 1)] /\ Z0 V g1 xs /\ Z0 V g2 ys
theorem left_frac (n1 n2 : Bool) (A B : Option Addr) (c e0 : Nat) (xs ys : List Nat) (g1 g2 : Nat) (w : World) (h : Zm w A c xs) (g : Zm w B e0 ys) (t1 : Z0 w g1 xs) (t2 : Z0 w g2 ys) (hx : xs.length <= 1048576) (hy : ys.length <= 1048576) :
  Calls Tryz.prog 36 #[.agg #[.bool n1, .slice (some ⟨g1, 0, none⟩) xs.length (xs.length + 1), .bool n2, .slice (some ⟨g2, 0, none⟩) ys.length (ys.length + 1)], .agg #[.bool n1, .slice A xs.length c, .bool n2, .slice B ys.length e0]] w fun e w' => e = .returned (.bool true) /\ Below w.heap.size w w' := by
 have pt := (Zz.new w (.bool n1) (.slice (some ⟨g1, 0, none⟩) xs.length (xs.length + 1)) (.bool n2) (.slice (some ⟨g2, 0, none⟩) ys.length (ys.length + 1))).alloc (.cells #[.bool n1, .slice A xs.length c, .bool n2, .slice B ys.length e0] 26)
 have px := Zz.new (w.alloc (.cells #[.bool n1, .slice (some ⟨g1, 0, none⟩) xs.length (xs.length + 1), .bool n2, .slice (some ⟨g2, 0, none⟩) ys.length (ys.length + 1)] 26)) (.bool n1) (.slice A xs.length c) (.bool n2) (.slice B ys.length e0)
 have b0 := ((Below.refl w.heap.size w).alloc (Nat.le_refl _) (.cells #[.bool n1, .slice (some ⟨g1, 0, none⟩) xs.length (xs.length + 1), .bool n2, .slice (some ⟨g2, 0, none⟩) ys.length (ys.length + 1)] 26)).alloc (by simp) (.cells #[.bool n1, .slice A xs.length c, .bool n2, .slice B ys.length e0] 26)
 simp only [World.size_alloc] at px
 have PT := Hd pt
 have PX := Hd px
 have HB := Hd b0
 have RX := Hd (h.below b0)
 have RY := Hd (g.below b0)
 have T1 := Hd (t1.below b0)
 have T2 := Hd (t2.below b0)
 have HL := Hd (And.intro hx hy)
 clear pt px b0 h g t1 t2 hx hy
 go_enter Tryz.func36, Tryz.ntmps36
 go_wp2_with fail
 obtain ⟨W, E⟩ : ∃ W, W = (w.alloc (.cells #[.bool n1, .slice (some ⟨g1, 0, none⟩) xs.length (xs.length + 1), .bool n2, .slice (some ⟨g2, 0, none⟩) ys.length (ys.length + 1)] 26)).alloc (.cells #[.bool n1, .slice A xs.length c, .bool n2, .slice B ys.length e0] 26) := ⟨_, rfl⟩
 rw [<- E] at PT PX HB RX RY T1 T2 ⊢
 clear E
 obtain ⟨l_t, t0, t1, t2, t3, -, -, -, -⟩ := PT.out.facts
 obtain ⟨l_x, x0, x1, x2, x3, -, -, -, -⟩ := PX.out.facts
 go_wp2_with fail
 refine (left_any n1 A c g1 xs W RX.out T1.out HL.out.1).mono ?_
 rintro e wx1 ⟨rfl, hb⟩
 clear l_t t0 t1 t2 t3 l_x x0 x1 x2 x3
 have HS_wx1 := Hd (show W.heap.size <= wx1.heap.size from hb.size)
 have PT := Hd (PT.out.below hb)
 have PX := Hd (PX.out.below hb)
 have RX := Hd (RX.out.below hb)
 have RY := Hd (RY.out.below hb)
 have T1 := Hd (T1.out.below hb)
 have T2 := Hd (T2.out.below hb)
 have HB := Hd (Zb HB.out hb)
 obtain ⟨l_t, t0, t1, t2, t3, -, -, -, -⟩ := PT.out.facts
 obtain ⟨l_x, x0, x1, x2, x3, -, -, -, -⟩ := PX.out.facts
 go_wp2_with fail
 refine (left_any n2 B e0 g2 ys wx1 RY.out T2.out HL.out.2).mono ?_
 rintro e wx2 ⟨rfl, hb⟩
 clear l_t t0 t1 t2 t3 l_x x0 x1 x2 x3
 have HS_wx2 := Hd (show wx1.heap.size <= wx2.heap.size from hb.size)
 have PT := Hd (PT.out.below hb)
 have PX := Hd (PX.out.below hb)
 have RX := Hd (RX.out.below hb)
 have RY := Hd (RY.out.below hb)
 have T1 := Hd (T1.out.below hb)
 have T2 := Hd (T2.out.below hb)
 have HB := Hd (Zb HB.out hb)
 go_wp2_with fail
 go_ret
 exact ⟨rfl, HB.out⟩

theorem ref02_Sign (n s : Int) (d : Int) (A B : Option Addr) (c e0 : Nat) (w : World) (h : Zm w A c (Za n.natAbs)) (hs : s = n.sign) :
  Calls Tryz.prog 111 #[.agg #[.bool (decide (n < 0)), .slice A (Za n.natAbs).length c, .bool (decide (d < 0)), .slice B (Za d.natAbs).length e0]] w fun e w' => e = .returned (.int .i64 s) /\ Below w.heap.size w w' := by
 have px := Zz.new w (.bool (decide (n < 0))) (.slice A (Za n.natAbs).length c) (.bool (decide (d < 0))) (.slice B (Za d.natAbs).length e0)
 have b0 := (Below.refl w.heap.size w).alloc (Nat.le_refl _) (.cells #[.bool (decide (n < 0)), .slice A (Za n.natAbs).length c, .bool (decide (d < 0)), .slice B (Za d.natAbs).length e0] 26)
 have C := Hd (rsign n s A c _ (h.below b0) hs)
 have B0 := Hd b0
 obtain ⟨-, x0, x1, x2, x3, -, -, -, -⟩ := px.facts
 clear h hs px b0
 go_enter Tryz.func111, Tryz.ntmps111
 go_wp2_with fail
 refine C.out.mono ?_
 rintro e w1 ⟨rfl, hb⟩
 have HF := Hd (Zb B0.out hb)
 clear x0 x1 x2 x3 hb
 go_wp2_with fail
 go_ret
 exact ⟨rfl, HF.out⟩
end Go.Proofs.YtdonecnhdkjniaaGreatDoor
