/- Several texts in one: Builder, Digits, FText, LowestOwn. -/
import Derived.Test.YtipmkkobdbgphaaGreatDoorPt03
import Derived.Test.YtipmkkobdbgphaaGreatDoorPtHd
import Derived.Lib.Builder
import Derived.Lib.AppendStr
import Derived.Lib.Slices
import Derived.Lib.Walk
import Derived.Lib.Strings
import Derived.Laws.Externs
import Derived.WalkKit
import Derived.Test.YtipmkkobdbgphaaGreatDoorPt01
import Derived.Test.YtipmkkobdbgphaaGreatDoorPt06
import Derived.Test.YtipmkkobdbgphaaGreatDoorPt12
import Derived.Test.YtipmkkobdbgphaaGreatDoorPt04
import Derived.Lib.AppendIntMem
import Derived.Deep.LoopGhost
import Derived.Test.YtipmkkobdbgphaaGreatDoorPt22
import Derived.Laws.Concat
import Derived.Test.YtipmkkobdbgphaaGreatDoorPt19
import Derived.Test.YtipmkkobdbgphaaGreatDoorPt20
set_option maxRecDepth 100000
set_option maxHeartbeats 8000000
/- strings.Builder of a call's own: copyCheck, WriteByte, WriteString at this dump (whose copyCheck has no panic's text: so the shelf's do not lie here). -/
namespace Go.Proofs.YtipmkkobdbgphaaGreatDoor
open Go.RowKit

theorem builderSize : (Tryz.prog.info? 242).map (·.size) = some 2 := by kernel_rfl
theorem builderLies : liesAt Tryz.prog Tryz.prog.depth 242 (2 / Tryz.prog.cellsOf 242) 0 242 1 = true := by kernel_rfl
theorem byteInfo : (Tryz.prog.info? 5).map (fun i => (i.zero, i.size, i.bytes)) = some (some (.int .u8 0), 1, 1) := by kernel_rfl
abbrev Bld (B b : Nat) (bs : List Value) (w : World) : Prop := Lib.IsBuilder 242 5 B b bs w

theorem check_used (b : Nat) (w : World) (h0 : w.cell? ⟨b, 0, none⟩ = some (.pointer (some ⟨b, 0, none⟩))) :
    Calls Tryz.prog 248 #[.pointer (some ⟨b, 0, none⟩)] w fun e w' => e = .returned (.tuple #[]) ∧ w' = w := by
  obtain ⟨j, hj, -⟩ := Option.map_eq_some_iff.1 builderSize
  go_enter Tryz.func248, Tryz.ntmps248
  go_wp2
  rw [Lib.run_neq_ptr_same w _ Tryz.underlying239 hj]
  go_wp2
  go_end0
  exact ⟨rfl, rfl⟩

theorem check_fresh (b : Nat) (w : World) (h0 : w.cell? ⟨b, 0, none⟩ = some (.pointer none)) (hsh : w.shape? b = some (242, 2)) (hfz : w.frozen? ⟨b, 0, none⟩ = false) :
    Calls Tryz.prog 248 #[.pointer (some ⟨b, 0, none⟩)] w fun e w' => e = .returned (.tuple #[]) ∧ w' = w.setCell ⟨b, 0, none⟩ (.pointer (some ⟨b, 0, none⟩)) := by
  obtain ⟨j, hj, hjs⟩ := Option.map_eq_some_iff.1 builderSize
  go_enter Tryz.func248, Tryz.ntmps248
  go_wp2
  rw [Lib.run_to_unsafe w ⟨b, 0, none⟩ Tryz.underlying239 Tryz.underlying275 hj (by rw [hjs]; decide) hsh (Nat.zero_lt_succ 1)]
  simp only [Result.andThen]
  rw [Oper.upon_value]
  go_wp2
  rw [run_callFunc_extern Tryz.func267 (by kernel_rfl) (by kernel_rfl) (by kernel_rfl) (e := Extern.AbiNoEscape.same) (by kernel_rfl)]
  rw [Lib.run_noEscape]
  simp only [Result.andThen]
  rw [Oper.upon_value]
  go_wp2
  rw [Lib.run_from_unsafe w ⟨b, 0, none⟩ Tryz.underlying275 Tryz.underlying239 hj hsh builderLies]
  simp only [Result.andThen]
  rw [Oper.upon_value]
  go_wp2
  go_end0
  exact ⟨rfl, rfl⟩

theorem builder_check (B b : Nat) (bs : List Value) (w : World) (h : Bld B b bs w) :
    Calls Tryz.prog 248 #[.pointer (some ⟨b, 0, none⟩)] w fun e w' => e = .returned (.tuple #[]) ∧ Lib.BuilderAt 242 5 B b (.pointer (some ⟨b, 0, none⟩)) bs w' ∧ Below B w w' ∧ w'.heap.size = w.heap.size ∧ w.grownBy w' (some b) := by
  rcases h with h | h
  · refine (check_fresh b w h.cell0 h.shape h.frozen0).mono ?_
    rintro e w' ⟨rfl, rfl⟩
    exact ⟨rfl, h.used _, (Below.refl B w).setCell (p := ⟨b, 0, none⟩) h.1 _, by simp [World.setCell], ⟨rfl, rfl, rfl, by simp [World.setCell], fun k _ hk => Below.heap_setCell _ _ _ _ (fun e => hk (by simp [e]))⟩⟩
  · refine (check_used b w h.cell0).mono ?_
    rintro e w' ⟨rfl, rfl⟩
    exact ⟨rfl, h, Below.refl B _, rfl, World.grownBy.refl _ _⟩

theorem write_byte (B b : Nat) (bs : List Value) (u : Int) (w : World) (h : Bld B b bs w) (hlen : bs.length + 1 ≤ 140737488355328) (hBw : B ≤ w.heap.size) :
    Calls Tryz.prog 219 #[.pointer (some ⟨b, 0, none⟩), .int .u8 u] w fun e w' => e = .returned .nilIface ∧ Bld B b (bs ++ [.int .u8 u]) w' ∧ Below B w w' := by
  obtain ⟨i0, hi, hz0, hz1, hz2⟩ := info_parts byteInfo
  have C := Hd (builder_check B b bs w h)
  clear h
  go_enter Tryz.func219, Tryz.ntmps219
  go_wp2_with fail
  refine C.out.mono ?_
  rintro e w1 ⟨rfl, ⟨hB, v, hbk, hown, hne⟩, hb1, hs1, -⟩
  have c0 : w1.cell? ⟨b, 0, none⟩ = some (.pointer (some ⟨b, 0, none⟩)) := by rw [Lib.cell_of_heap hbk]; rfl
  have c1 : w1.cell? ⟨b, 1, none⟩ = some v := by rw [Lib.cell_of_heap hbk]; rfl
  have hlt : b < w1.heap.size := by
    rcases Nat.lt_or_ge b w1.heap.size with h' | h'
    · exact h'
    · simp [Array.getElem?_eq_none h'] at hbk
  have HB1 := Hd hb1
  have hBw1 : B ≤ w1.heap.size := by omega
  have hwl : w.heap.size ≤ w1.heap.size := by omega
  clear C hb1 hs1
  go_wp2_with (
      at_builtin
      refine wpList_append_own _ rfl _ _ 240 rfl B 5 i0 (.int .u8 0) 1 1 Tryz.underlying240 hi hz0 hz1 hz2 rfl (by decide) _ _ _ rfl (hown.alloc _) ⟨w1.heap.size, 0, none⟩ 1 1 [.int .u8 u] rfl rfl (by
      intro j x hj
      match j, hj with
      | 0, hj => simp at hj; subst hj; simp [Addr.add]) (by intro x hx; simp at hx; subst hx; rfl) (by unfold maxLen; omega) (by omega) (by simp; omega) ?_
      intro v' w2 hown' hgrow hat'
      have hb2 : w2.heap[b]? = some (.cells #[.pointer (some ⟨b, 0, none⟩), v] 242 (0, 0)) := by
        rw [hgrow.block b (by simp; omega) (fun e => hne e.symm), Lib.alloc_old w1 _ b hlt]
        exact hbk
      have d0 : w2.cell? ⟨b, 0, none⟩ = some (.pointer (some ⟨b, 0, none⟩)) := by rw [Lib.cell_of_heap hb2]; rfl
      have d1 : w2.cell? ⟨b, 1, none⟩ = some v := by rw [Lib.cell_of_heap hb2]; rfl
      have f1 : w2.frozen? ⟨b, 1, none⟩ = false := Lib.frozen_of_heap hb2 1
      obtain ⟨g, cap, rfl⟩ : ∃ g cap, v' = .slice (some ⟨g, 0, none⟩) (bs.length + 1) cap := by
        rcases hown'.2 with ⟨_, h0⟩ | ⟨g, cap, cur, hv, _⟩
        · omega
        · exact ⟨g, cap, hv⟩)
  go_ret
  refine ⟨rfl, .inr ?_, ?_⟩
  · exact Lib.BuilderAt.put (T := 242) (e := 5) hB hb2 (bs' := bs ++ [.int .u8 u]) (by simpa using hown') (by decide)
  · exact ((HB1.out.alloc (by omega) _).grown hgrow (by simp; omega) (fun k hk => (hown.lt k hk).1)).setCell (p := ⟨b, 1, none⟩) hB _

theorem write_string (B b : Nat) (bs : List Value) (s : ByteArray) (w : World) (h : Bld B b bs w) (hlen : bs.length + s.size ≤ 140737488355328) (hBw : B ≤ w.heap.size) :
    Calls Tryz.prog 220 #[.pointer (some ⟨b, 0, none⟩), .string s] w fun e w' => e = .returned (.tuple #[.int .i64 s.size, .nilIface]) ∧ Bld B b (bs ++ Lib.strCells s) w' ∧ Below B w w' := by
  obtain ⟨i0, hi, hz0, hz1, hz2⟩ := info_parts byteInfo
  have C := Hd (builder_check B b bs w h)
  clear h
  go_enter Tryz.func220, Tryz.ntmps220
  go_wp2_with fail
  refine C.out.mono ?_
  rintro e w1 ⟨rfl, ⟨hB, v, hbk, hown, hne⟩, hb1, hs1, -⟩
  have c0 : w1.cell? ⟨b, 0, none⟩ = some (.pointer (some ⟨b, 0, none⟩)) := by rw [Lib.cell_of_heap hbk]; rfl
  have c1 : w1.cell? ⟨b, 1, none⟩ = some v := by rw [Lib.cell_of_heap hbk]; rfl
  have hlt : b < w1.heap.size := by
    rcases Nat.lt_or_ge b w1.heap.size with h' | h'
    · exact h'
    · simp [Array.getElem?_eq_none h'] at hbk
  have HB1 := Hd hb1
  have hBw1 : B ≤ w1.heap.size := by omega
  have hwl : w.heap.size ≤ w1.heap.size := by omega
  clear C hb1 hs1
  go_wp2_with (
      at_builtin
      refine Lib.wpList_append_own_string _ rfl _ _ 240 9 rfl B 5 i0 Tryz.underlying240 Tryz.underlying9 hi hz0 hz1 hz2 _ _ _ rfl hown s rfl (by unfold maxLen; omega) (by omega) (by omega) ?_
      intro v' w2 hown' hgrow hat'
      have hb2 : w2.heap[b]? = some (.cells #[.pointer (some ⟨b, 0, none⟩), v] 242 (0, 0)) := by
        rw [hgrow.block b hlt (fun e => hne e.symm)]
        exact hbk
      have d0 : w2.cell? ⟨b, 0, none⟩ = some (.pointer (some ⟨b, 0, none⟩)) := by rw [Lib.cell_of_heap hb2]; rfl
      have d1 : w2.cell? ⟨b, 1, none⟩ = some v := by rw [Lib.cell_of_heap hb2]; rfl
      have f1 : w2.frozen? ⟨b, 1, none⟩ = false := Lib.frozen_of_heap hb2 1
      obtain ⟨ao, n', cap, rfl⟩ : ∃ ao n' cap, v' = .slice ao n' cap := by
        rcases hown'.2 with ⟨hv, _⟩ | ⟨g, cap, cur, hv, _⟩
        · exact ⟨_, _, _, hv⟩
        · exact ⟨_, _, _, hv⟩)
  go_ret2
  refine ⟨rfl, .inr ?_, ?_⟩
  · exact Lib.BuilderAt.put (T := 242) (e := 5) hB hb2 (bs' := bs ++ Lib.strCells s) (by simpa [Lib.strCells_length] using hown') (by decide)
  · exact (HB1.out.grown hgrow (by omega) (fun k hk => (hown.lt k hk).1)).setCell (p := ⟨b, 1, none⟩) hB _
/- Digits of package exact: the decimal text of a whole number. -/

abbrev powTab (w : World) : Prop := Lib.TabIs Tryz.prog w "internal/strconv.uint64pow10" .u64 Lib.pow10Tab
theorem stringInfo : (Tryz.prog.info? 9).map (fun i => (i.zero, i.size, i.bytes)) = some (some (.string ⟨#[]⟩), 1, 16) := by kernel_rfl
def strs (cs : List Nat) : List Value := cs.map fun c => Value.string ⟨(Lib.decDigits c).toArray⟩
structure Dg (w wr : World) (n1 : Bool) (S : Value) (V v : Nat) (cs : List Nat) (pv : Value) (g cap : Nat) : Prop where
  low : Below w.heap.size w wr
  front : Front wr g cap (natL v)
  hg : w.heap.size + 1 ≤ g
  parts : wr.ownsRow (w.heap.size + 1) 9 1 pv cs.length (strs cs)
  px : Pair wr w.heap.size 25 (.bool n1) S
  all : chunks V = cs ++ chunks v
  big : v * 2 ^ (29 * cs.length) ≤ V
  few : cs.length ≤ 2000001
theorem Dg.count {w wr : World} {n1 : Bool} {S : Value} {V v L : Nat} {cs : List Nat} {pv : Value} {g cap : Nat} (h : Dg w wr n1 S V v cs pv g cap) (hv : 0 < v) (hV : (natL V).length ≤ L) : cs.length ≤ 2 * L := by
  have h1 : V < 2 ^ (32 * L) := by
    have := natL_length_le.1 hV
    rw [show 4294967296 = 2 ^ 32 by decide, ← Nat.pow_mul] at this
    exact this
  have h2 : 2 ^ (29 * cs.length) ≤ V := Nat.le_trans (Nat.le_mul_of_pos_left _ hv) h.big
  have h3 : 2 ^ (29 * cs.length) < 2 ^ (32 * L) := by omega
  have := (Nat.pow_lt_pow_iff_right (by omega)).1 h3
  omega
theorem big_next {v n V : Nat} (h : v * 2 ^ (29 * n) ≤ V) : v / 1000000000 * 2 ^ (29 * (n + 1)) ≤ V := by
  rw [Nat.mul_add, Nat.mul_one, Nat.pow_add]
  generalize 2 ^ (29 * n) = p at *
  have h1 : v / 1000000000 * 2 ^ 29 ≤ v := by
    have : (2 : Nat) ^ 29 ≤ 1000000000 := by decide
    calc v / 1000000000 * 2 ^ 29 ≤ v / 1000000000 * 1000000000 := Nat.mul_le_mul_left _ this
      _ ≤ v := Nat.div_mul_le_self _ _
  calc v / 1000000000 * (p * 2 ^ 29) = v / 1000000000 * 2 ^ 29 * p := by rw [Nat.mul_comm p, Nat.mul_assoc]
    _ ≤ v * p := Nat.mul_le_mul_right _ h1
    _ ≤ V := h

theorem digits_more (n1 : Bool) (A : Option Addr) (c : Nat) (xs : List Nat) (hne : xs ≠ []) (hcx : Canon xs) (hl : xs.length ≤ 1000000) (z : List UInt8) (HZ : Hid (z = if n1 then 45 :: Lib.decDigits (val xs) else Lib.decDigits (val xs))) (w : World) (h : Raw w A c xs) (htab : powTab w) :
    Calls Tryz.prog 183 #[.agg #[.bool n1, .slice A xs.length c]] w fun e w' => e = .returned (.string ⟨z.toArray⟩) ∧ Below w.heap.size w w' := by
  obtain ⟨i0, hi, hz0, hz1, hz2⟩ := info_parts stringInfo
  have px := Pair.new w 25 (.bool n1) (.slice A xs.length c)
  have b0 := (Below.refl w.heap.size w).alloc (Nat.le_refl _) (.cells #[.bool n1, .slice A xs.length c] 25)
  have rx := h.alloc (.cells #[.bool n1, .slice A xs.length c] 25)
  have HT := Hd (Lib.tabBelow_of_tabIs htab)
  obtain ⟨V, hV⟩ : ∃ V, V = val xs := ⟨_, rfl⟩
  have eV : natL V = xs := by rw [hV]; exact natL_val h.limbs hcx
  have hpV : 0 < V := by
    rcases Nat.eq_zero_or_pos V with h0 | h0
    · rw [h0, natL_zero] at eV; exact absurd eV.symm hne
    · exact h0
  have HX := Hd h.limbs
  rw [← hV] at HZ
  clear h htab hV
  go_enter Tryz.func183, Tryz.ntmps183
  obtain ⟨W, E⟩ : ∃ W, W = w.alloc (.cells #[.bool n1, .slice A xs.length c] 25) := ⟨_, rfl⟩
  have hsW : W.heap.size = w.heap.size + 1 := by rw [E]; simp
  have C1 := Hd (slices_Clone A c xs (by omega) W (by rw [E]; exact rx))
  go_wp2_with fail
  rw [← E] at px b0 ⊢
  clear E rx
  refine C1.out.mono ?_
  rintro e w1 ⟨v, rfl, hv, hb1⟩
  obtain ⟨g, cap, rfl, hg, hcap, hf⟩ := hv.front hne
  have H0 := Hd (show Dg w w1 n1 (.slice A xs.length c) V V [] (.slice none 0 0) g cap from
    ⟨belowTo b0 hb1, by rw [eV]; exact hf, by omega, World.ownsRow_nil _ _ _ _, px.below hb1, rfl, by simp, by simp⟩)
  have HV := Hd (show (natL V).length ≤ 1000000 by rw [eV]; exact hl)
  have HC := Hd hcap
  rw [← eV] at *
  clear px b0 hb1 hv hf hg C1 eV hsW hcap
  go_wp2_with fail
  go_loopg [3, 4] (V) (fun v p l wr => ∃ AP cP cs, p = .slice AP cs.length cP ∧ l = .slice (some ⟨g, 0, none⟩) (natL v).length cap ∧ Hid (Dg w wr n1 (.slice A (natL V).length c) V v cs (.slice AP cs.length cP) g cap))
  case atStart => exact ⟨none, 0, [], rfl, rfl, H0⟩
  case round =>
    clear H0
    obtain ⟨AP, cP, cs, rfl, rfl, HR⟩ := hrel
    rcases Nat.eq_zero_or_pos gk with h0 | h0
    · subst h0
      have hall := HR.out.all
      rw [chunks_nil, List.append_nil] at hall
      have hn0 : (natL 0).length = 0 := by simp [natL_zero]
      rw [hn0]
      have hcs : cs ≠ [] := fun e => by
        rw [e, chunks_cons (by omega)] at hall
        cases hall
      have hd : ((cs.length : Int) == 0) = false := by
        have : cs.length ≠ 0 := fun e => hcs (List.eq_nil_of_length_eq_zero e)
        simp; omega
      have HALL := Hd hall
      have HCS := Hd hcs
      clear hn0 hall hcs
      have hlt : ∀ c ∈ cs, c < 1000000000 := fun c hc => chunks_lt V c (by rw [HALL.out]; exact hc)
      have hcnt := HR.out.few
      have HLT := Hd hlt
      obtain ⟨l1, x0, x1, -, -⟩ := (HR.out.px.alloc (.cells #[.pointer none, .slice none 0 0] 242)).facts
      obtain ⟨pre, hpre⟩ : ∃ pre : List UInt8, pre = if n1 then [45] else [] := ⟨_, rfl⟩
      have HP := Hd (show z = pre ++ chunkText cs by
        rw [HZ.out, hpre, ← HALL.out, chunk_text V (by omega)]; cases n1 <;> simp)
      have HPL := Hd (show pre.length ≤ 1 by rw [hpre]; cases n1 <;> simp)
      have HLEN := Hd (show ∀ k, (pre ++ chunkText (cs.drop k)).length ≤ 20000000 from fun k => by
        have h1 := chunkText_length (cs.drop k) (fun c hc => hlt c (List.mem_of_mem_drop hc))
        have h2 := HPL.out
        have h3 : (cs.drop k).length ≤ cs.length := by simp
        rw [List.length_append]; omega)
      have HBf := Hd (Lib.fresh_isBuilder 242 5 wr)
      have HBw := Hd ((Below.refl wr.heap.size wr).alloc (Nat.le_refl _) (.cells #[.pointer none, .slice none 0 0] 242))
      have HRD := Hd (Reads.of_own HR.out.parts)
      have HLW := Hd HR.out.low
      clear hlt HZ HT HX HR
      cases n1
      case' false =>
        simp at hpre
        go_wp2_with fail
        have H2 := Hd (show Bld wr.heap.size wr.heap.size (Lib.byteCells (pre ++ chunkText (cs.drop cs.length))) (wr.alloc (.cells #[.pointer none, .slice none 0 0] 242)) ∧ Below wr.heap.size wr (wr.alloc (.cells #[.pointer none, .slice none 0 0] 242)) from ⟨by rw [hpre, List.drop_length]; exact HBf.out, HBw.out⟩)
        clear HBf HBw l1 x0 x1 hpre
        obtain ⟨wz, hwz⟩ : ∃ wz : World, wz = wr.alloc (.cells #[.pointer none, .slice none 0 0] 242) := ⟨_, rfl⟩
        rw [← hwz] at H2 ⊢
        clear hwz
      case' true =>
        have hbwx := HBf.out
        have C3 := Hd (write_byte wr.heap.size wr.heap.size [] 45 _ HBf.out (by simp) (by simp))
        go_wp2_with fail
        refine C3.out.mono ?_
        rintro e wz ⟨rfl, hwb, hbw⟩
        have H2 := Hd (show Bld wr.heap.size wr.heap.size (Lib.byteCells (pre ++ chunkText (cs.drop cs.length))) wz ∧ Below wr.heap.size wr wz from ⟨by rw [hpre, List.drop_length]; exact hwb, HBw.out.trans hbw⟩)
        clear HBf HBw l1 x0 x1 hpre hwb hbw C3 hbwx
        go_wp2_with fail
      all_goals
        obtain ⟨b, hb⟩ : ∃ b, b = wr.heap.size := ⟨_, rfl⟩
        rw [← hb] at H2 HRD ⊢
        obtain ⟨wq, hwq⟩ : ∃ wq : World, wq = wr := ⟨_, rfl⟩
        rw [← hwq] at H2 HRD HLW hb
        clear hwq
        have hlb : ∀ W', Below b wq W' → b ≤ W'.heap.size := fun W' h => by have := h.size; omega
        have HLB := Hd hlb
        have HLC := Hd (show ∀ W', Below b wq W' → Below w.heap.size w W' from fun W' h => belowTo HLW.out (by rw [← hb]; exact h))
        clear hb hlb HLW
        go_loopw [6] (fun s wl => ∃ k : Nat, ∃ i : Int, s = .int .i64 i ∧ i = (k : Int) - 1 ∧ k ≤ cs.length ∧ Hid (Bld b b (Lib.byteCells (pre ++ chunkText (cs.drop k))) wl ∧ Below b wq wl)) (fun s _ => (intOf s + 1).toNat)
        case atStart => exact ⟨cs.length, _, rfl, by first | rfl | omega, Nat.le_refl _, H2⟩
        case round =>
          clear H2
          obtain ⟨k, i, rfl, hik, hk, HB⟩ := hrel
          rcases Nat.eq_zero_or_pos k with h0 | h0
          · subst h0
            have hi0 : decide (0 ≤ i) = false := by simp; omega
            have hbb := HB.out.1
            rw [List.drop_zero, ← HP.out] at hbb
            have C4 := Hd (Tryz.Builder_String_any b b z wr hbb (HLB.out _ HB.out.2))
            clear hik hk
            go_wp2_with fail
            refine C4.out.mono ?_
            rintro e wf ⟨rfl, hbf⟩
            have HFB := Hd (HLC.out _ (HB.out.2.trans hbf))
            clear hbf hbb
            go_wp2_with fail
            go_ret
            exact ⟨rfl, HFB.out⟩
          · obtain ⟨m, rfl⟩ : ∃ m, k = m + 1 := ⟨k - 1, by omega⟩
            have him : i = (m : Int) := by omega
            subst him
            have hm : m < cs.length := by omega
            have hmi : (m : Int) < (cs.length : Int) := by omega
            have hm0 : (0 : Int) ≤ (m : Int) := by omega
            obtain ⟨ad, u, rfl, had, hu, hcell⟩ := (HRD.out.below HB.out.2).at_ hm
            have hu2 : u = .string ⟨(Lib.decDigits cs[m]).toArray⟩ := by
              have : (strs cs)[m]? = some (.string ⟨(Lib.decDigits cs[m]).toArray⟩) := by simp [strs, hm]
              rw [this] at hu
              exact (Option.some.inj hu).symm
            subst hu2
            obtain ⟨S, hS⟩ : ∃ S : ByteArray, S = ⟨(Lib.decDigits cs[m]).toArray⟩ := ⟨_, rfl⟩
            rw [← hS] at hcell
            have hS9 : S.size ≤ 9 := by rw [hS]; exact dec_nine_len (HLT.out _ (List.getElem_mem hm))
            have HS := Hd hS
            have HCELL := Hd (show ∀ W', Below b wq W' → W'.cell? (ad.add m) = some (.string S) from fun W' h => by
              obtain ⟨ad', u, e, -, h2, h3⟩ := (HRD.out.below h).at_ hm
              injection e with e
              subst e
              have : (strs cs)[m]? = some (.string ⟨(Lib.decDigits cs[m]).toArray⟩) := by simp [strs, hm]
              rw [this] at h2
              rw [h3, ← Option.some.inj h2, hS])
            clear hS hu hik hk h0
            by_cases hlast : m + 1 < cs.length
            · have hd : decide ((m : Int) < (cs.length : Int) - 1) = true := by simp; omega
              have C5 := Hd (write_string b b _ (ByteArray.extract ⟨#[48, 48, 48, 48, 48, 48, 48, 48, 48]⟩ S.size 9) wr HB.out.1 (by
                have := HLEN.out (m + 1)
                have h9 : (ByteArray.extract ⟨#[48, 48, 48, 48, 48, 48, 48, 48, 48]⟩ S.size 9).size ≤ 9 := by
                  rw [Lib.extract_eq]
                  show ((List.drop S.size _).take (9 - S.size)).toArray.size ≤ 9
                  rw [List.size_toArray]
                  exact Nat.le_trans (List.length_take_le _ _) (by omega)
                rw [Lib.byteCells_length]; omega) (HLB.out _ HB.out.2))
              have HM := Hd hlast
              clear hlast
              go_wp2_with fail
              refine C5.out.mono ?_
              rintro e w2 ⟨rfl, h2, b2⟩
              have hb2 := HB.out.2.trans b2
              have hcell2 := HCELL.out _ hb2
              have h2' : Bld b b (Lib.byteCells (pre ++ chunkText (cs.drop (m + 1)) ++ List.replicate (9 - S.size) 48)) w2 := by
                have e : Lib.strCells (ByteArray.extract ⟨#[48, 48, 48, 48, 48, 48, 48, 48, 48]⟩ S.size 9) = Lib.byteCells (List.replicate (9 - S.size) 48) := by
                  rw [Lib.extract_eq, Lib.strCells_toArray]
                  show Lib.byteCells (((List.replicate 9 48).drop S.size).take (9 - S.size)) = _
                  rw [List.drop_replicate, List.take_replicate, Nat.min_self]
                rw [e] at h2
                simpa [Lib.byteCells] using h2
              have C6 := Hd (write_string b b _ S w2 h2' (by
                have := HLEN.out (m + 1)
                rw [Lib.byteCells_length, List.length_append, List.length_replicate]; omega) (HLB.out _ hb2))
              have HB2 := Hd hb2
              clear h2 b2 hb2 h2' hcell C5
              go_wp2_with fail
              refine C6.out.mono ?_
              rintro e w3 ⟨rfl, h3, b3⟩
              have HN := Hd (show Bld b b (Lib.byteCells (pre ++ chunkText (cs.drop m))) w3 ∧ Below b wq w3 from ⟨by
                rw [chunk_next HM.out, pad9 _ (HLT.out _ (List.getElem_mem hm))]
                rw [HS.out] at h3
                have e : (ByteArray.size ⟨(Lib.decDigits cs[m]).toArray⟩) = (Lib.decDigits cs[m]).length := by simp [ByteArray.size]
                rw [e, Lib.strCells_toArray] at h3
                simpa [Lib.byteCells] using h3, HB2.out.trans b3⟩)
              clear h3 b3 C6 hcell2
              go_wp2_with fail
              go_roundw
              case rel => exact ⟨m, (m : Int) - 1, by go_num, rfl, by omega, HN⟩
              case measure => simp [intOf]
            · have hd : decide ((m : Int) < (cs.length : Int) - 1) = false := by simp; omega
              have C5 := Hd (write_string b b _ S wr HB.out.1 (by
                have := HLEN.out (m + 1)
                rw [Lib.byteCells_length]; omega) (HLB.out _ HB.out.2))
              have HM := Hd (show m + 1 = cs.length by omega)
              clear hlast
              go_wp2_with fail
              refine C5.out.mono ?_
              rintro e w3 ⟨rfl, h3, b3⟩
              have HN := Hd (show Bld b b (Lib.byteCells (pre ++ chunkText (cs.drop m))) w3 ∧ Below b wq w3 from ⟨by
                rw [chunk_top HM.out]
                rw [HS.out, Lib.strCells_toArray, HM.out, List.drop_length] at h3
                simpa [Lib.byteCells, chunkText] using h3, HB.out.2.trans b3⟩)
              clear h3 b3 C5
              go_wp2_with fail
              go_roundw
              case rel => exact ⟨m, (m : Int) - 1, by go_num, rfl, by omega, HN⟩
              case measure => simp [intOf]
    · have hlen : decide (0 < (natL gk).length) = true := decide_eq_true (by
        rcases Nat.eq_zero_or_pos (natL gk).length with e | e
        · have := natL_eq_nil.1 (List.eq_nil_of_length_eq_zero e)
          omega
        · exact e)
      have hcnt := HR.out.count h0 HV.out
      have C1 := Hd (exact_short g cap cap 1000000000 (natL gk) (by omega) (by omega) (limbs_natL _) (by have := HV.out; have := natL_mono (show gk ≤ V from Nat.le_trans (Nat.le_mul_of_pos_right _ (Nat.two_pow_pos _)) HR.out.big); omega) wr HR.out.front)
      rw [val_natL] at C1
      go_wp2_with fail
      refine C1.out.mono ?_
      rintro e w2 ⟨rfl, zs', hz1', hz2', hz3', hf', hgr⟩
      have hlow := HR.out.low.trans ((grown_below hgr (Nat.le_trans (Nat.le_succ _) HR.out.hg) HR.out.low.size))
      have hmod : gk % 1000000000 < 1000000000 := Nat.mod_lt _ (by omega)
      have C2 := Hd (Tryz.strconv_Itoa ((gk % 1000000000 : Nat) : Int) (by omega) (by omega) w2 (HT.out _ hlow))
      rw [Lib.itoa_nonneg] at C2
      have hne1 : (Value.slice AP cs.length cP).ownBlock ≠ some g := by
        obtain ⟨rest, -, hbk⟩ := HR.out.front.ex
        exact own_blk_ne HR.out.parts hbk (by decide)
      have HOW := Hd (HR.out.parts.kept hgr (Or.inr hne1))
      have HF2 := Hd hf'
      have HLOW := Hd hlow
      have HPX := Hd (HR.out.px.grown hgr (by
        intro e
        injection e with e
        have := HR.out.hg
        omega))
      have HZ' := Hd (show zs'.length = (natL gk).length ∧ Limbs zs' ∧ val zs' = gk / 1000000000 from ⟨hz1', hz2', hz3'⟩)
      have HALL := Hd (And.intro HR.out.all (And.intro HR.out.big HR.out.hg))
      have HNE := Hd hne1
      have HCNT := Hd hcnt
      have HK0 := Hd h0
      clear hz1' hz2' hz3' hf' hgr hlow hne1 C1 HR hcnt hlen h0
      go_wp2_with fail
      refine C2.out.mono ?_
      rintro e w3' ⟨rfl, k', os', hw3⟩
      have hb3 : Below w2.heap.size w2 w3' := by rw [hw3]; exact Lib.below_grow _ _ (Nat.le_refl _) _ _
      have how := own_below HOW.out hb3
      have HF3 := Hd (HF2.out.below hb3)
      have HPX3 := Hd (HPX.out.below hb3)
      have HL3 := Hd (belowTo HLOW.out hb3)
      obtain ⟨S, hS⟩ : ∃ S : ByteArray, S = ⟨(Lib.decDigits (gk % 1000000000)).toArray⟩ := ⟨_, rfl⟩
      rw [← hS]
      have HS := Hd hS
      have hs3 := HL3.out.size
      have hs4 : w.heap.size + 1 ≤ w3'.heap.size := by have := HF3.out.lt; have := HALL.out.2.2; omega
      have hcn := HCNT.out
      clear hw3 hb3 hS HF2 HPX HLOW HOW C2
      go_wp2_with (
        at_builtin
        refine wpList_append_any _ rfl (.tmp 15) (.tmp 20) _ rfl (w.heap.size + 1) 9 i0 _ 1 16 Tryz.underlying131 hi hz0 hz1 hz2 rfl (by omega) (.slice AP cs.length cP) cs.length (strs cs) rfl (how.alloc _) (w3'.heap.size + 1) (some ⟨w3'.heap.size, 0, none⟩) 1 1 [.string S] rfl (Reads.new1 w3' _ 1 _ rfl) (by intro x hx; simp at hx; subst hx; rfl) (by unfold maxLen; omega) (by omega) (by simp; omega) ?_
        intro v' w4 ho hg4 hat
        obtain ⟨A5, c5, rfl⟩ := own_form (by omega) ho
        have HF4 := Hd ((HF3.out.alloc (.cells #[.string S] 9)).stays hg4 (fun e => HNE.out e.symm))
        have HPX4 := Hd ((HPX3.out.alloc (.cells #[.string S] 9)).grown hg4 (fun e => by
          have := (how.lt _ e.symm).1
          omega))
        have HL4 := Hd ((HL3.out.alloc (by omega) (.cells #[.string S] 9)).grown hg4 (by simp; omega) (fun k hk => by have := (how.lt k hk).1; omega))
        have HO4 := Hd ho
        clear ho hg4 hat)
      have C3 := exact_trim (some ⟨g, 0, none⟩) cap zs' HZ'.out.2.1 HF4.out.fits HC.out w4.heap.size w4 HF4.out.reads
      rw [HZ'.out.1, HZ'.out.2.2] at C3
      have H3 := Hd C3
      have HFN := Hd (show Front w4 g cap (natL (gk / 1000000000)) from by
        have := HF4.out.cut (natL (val zs')).length
        rw [← natL_take HZ'.out.2.1, HZ'.out.2.2] at this
        exact this)
      have HN := Hd (show Dg w w4 n1 (.slice A (natL V).length c) V (gk / 1000000000) (cs ++ [gk % 1000000000]) (.slice A5 (cs.length + 1) c5) g cap from
        ⟨HL4.out, HFN.out, HALL.out.2.2, by
          have e : strs (cs ++ [gk % 1000000000]) = strs cs ++ [.string S] := by rw [HS.out]; simp [strs]
          rw [e, List.length_append, List.length_singleton]; exact HO4.out, HPX4.out, by
          rw [HALL.out.1, chunks_cons (by have := HK0.out; omega)]; simp, by
          rw [List.length_append, List.length_singleton]; exact big_next HALL.out.2.1, by
          rw [List.length_append, List.length_singleton]; have := HCNT.out; omega⟩)
      have HM := Hd (show gk / 1000000000 < gk from Nat.div_lt_self HK0.out (by omega))
      clear C3 HF4 HPX4 HL4 HO4 HFN HALL HS HZ' how hs3 hs4 hcn HNE HF3 HPX3 HL3 hmod
      go_wp2_with fail
      refine H3.out.mono ?_
      rintro e w5 ⟨rfl, rfl⟩
      go_wp2_with fail
      go_roundg (gk / 1000000000)
      case measure => exact HM.out
      case rel => exact ⟨A5, c5, cs ++ [gk % 1000000000], by simp, rfl, by simpa using HN⟩

theorem digits_nought (n1 : Bool) (A : Option Addr) (c : Nat) (w : World) (h : Raw w A c []) :
    Calls Tryz.prog 183 #[.agg #[.bool n1, .slice A ([] : List Nat).length c]] w fun e w' => e = .returned (.string ⟨#[48]⟩) ∧ Below w.heap.size w w' := by
  have b0 := (Below.refl w.heap.size w).alloc (Nat.le_refl _) (.cells #[.bool n1, .slice A ([] : List Nat).length c] 25)
  have rx := h.alloc (.cells #[.bool n1, .slice A ([] : List Nat).length c] 25)
  clear h
  go_enter Tryz.func183, Tryz.ntmps183
  have C1 := Hd (slices_Clone A c [] (by simp) _ rx)
  have HB := Hd b0
  clear rx b0
  go_wp2_with fail
  refine C1.out.mono ?_
  rintro e w1 ⟨v, rfl, hv, hb1⟩
  obtain ⟨A1, c1, rfl, -⟩ := hv.form
  have HF := Hd (belowTo HB.out hb1)
  clear hv hb1 C1
  go_wp2_with fail
  go_loop [3, 4] (fun p l => p = .slice none 0 0 ∧ l = .slice A1 0 c1) (fun _ _ => 0)
  case atStart => exact ⟨rfl, rfl⟩
  case round =>
    obtain ⟨rfl, rfl⟩ := hrel
    go_wp2_with fail
    go_ret
    exact ⟨rfl, HF.out⟩
theorem exact_Digits (n1 : Bool) (A : Option Addr) (c : Nat) (xs : List Nat) (hcx : Canon xs) (hl : xs.length ≤ 1000000) (w : World) (h : Raw w A c xs) (htab : powTab w) :
    Calls Tryz.prog 183 #[.agg #[.bool n1, .slice A xs.length c]] w fun e w' => e = .returned (.string ⟨(Lib.itoa (ival n1 xs)).toArray⟩) ∧ Below w.heap.size w w' := by
  by_cases hx : xs = []
  · subst hx
    have e : Lib.itoa (ival n1 []) = [48] := by
      have : ival n1 [] = ((0 : Nat) : Int) := by unfold ival; cases n1 <;> rfl
      rw [this, Lib.itoa_nonneg, Lib.decDigits_one (by omega)]; rfl
    rw [e]
    exact digits_nought n1 A c w h
  · refine digits_more n1 A c xs hx hcx hl _ (Hd ?_) w h htab
    have hp : 0 < val xs := by
      rcases Nat.eq_zero_or_pos (val xs) with h0 | h0
      · have := natL_val h.limbs hcx
        rw [h0, natL_zero] at this
        exact absurd this.symm hx
      · exact h0
    unfold ival
    cases n1
    · simp [Lib.itoa_nonneg]
    · simp only [if_true]
      rw [Lib.itoa_neg _ hp]
/- Digits of package ratio; Text and Sign of package frac. (Written by wip/frac/gentext.py.) -/

theorem powTab.below2 {w w' : World} (h : powTab w) (hb : Below w.heap.size w w') : powTab w' := Lib.tabBelow_of_tabIs h w' hb
theorem dec_fit_any (k : Nat) (hk : 0 < k) {x : Nat} (h : (natL x).length ≤ k) : (Lib.decDigits x).length ≤ 32 * k := by
  refine dec_short (32 * k) x (by omega) ?_
  have h1 : x < 2 ^ (32 * k) := by
    have := natL_length_le.1 h
    rw [show 4294967296 = 2 ^ 32 by decide, ← Nat.pow_mul] at this
    exact this
  exact Nat.lt_of_lt_of_le h1 (Nat.pow_le_pow_left (by decide) _)
theorem dec_fit {x : Nat} (h : (natL x).length ≤ 2048) : (Lib.decDigits x).length ≤ 65536 := dec_fit_any 2048 (by omega) h
theorem itoa_fit {x : Int} (h : Fit x) : (Lib.itoa x).length ≤ 65537 := by
  have := dec_fit (x := x.natAbs) h
  unfold Lib.itoa
  split
  · simp; omega
  · rw [show x.toNat = x.natAbs by omega]; omega
def fracText (n d : Int) : List UInt8 := if d = 1 then Lib.itoa n else Lib.itoa n ++ 47 :: Lib.itoa d

theorem ratio_Digits_one (n d : Int) (A B : Option Addr) (c e0 : Nat) (w : World) (h_x : Raw w A c (natL n.natAbs)) (k_x : Raw w B e0 (natL d.natAbs)) (htab : powTab w) (hn : Fit n) (hd : Fit d) (hd1 : d = 1) :
    Calls Tryz.prog 107 #[.agg #[.bool (decide (n < 0)), .slice A (natL n.natAbs).length c, .bool (decide (d < 0)), .slice B (natL d.natAbs).length e0]] w fun e w' => e = .returned (.string ⟨(fracText n d).toArray⟩) ∧ Below w.heap.size w w' := by
  have HTW := Hd htab
  obtain ⟨one, hone⟩ : ∃ k : Int, k = 1 := ⟨_, rfl⟩
  obtain ⟨k, hk⟩ : ∃ k : Int, k = cmpz d one := ⟨_, rfl⟩
  have H1 := Hd hone
  have HK := Hd hk
  have hnl : lz n ≤ 2048 := hn
  have hdl : lz d ≤ 2048 := hd
  have hol : lz one ≤ 2048 := by rw [hone]; decide
  have C3 := Hd (fun (V : World) (h : Raw V A c (natL n.natAbs)) (htab : powTab V) => exact_Digits (decide (n < 0)) A c _ (canon_natL _) (by unfold lz at hnl; omega) V h htab)
  simp only [ival_at] at C3
  have hk0 : k = 0 := by rw [hk, hone, hd1]; decide
  have HD := Hd (show fracText n d = Lib.itoa n from if_pos hd1)
  obtain ⟨t1, ht1⟩ : ∃ t : ByteArray, t = ⟨(Lib.itoa n).toArray⟩ := ⟨_, rfl⟩
  rw [← ht1] at C3
  have HT1 := Hd ht1
  clear htab hone hk hn hd hd1 ht1
  have b0 := ((Below.refl w.heap.size w).alloc (Nat.le_refl _) (.cells #[.bool (decide (n < 0)), .slice A (natL n.natAbs).length c, .bool (decide (d < 0)), .slice B (natL d.natAbs).length e0] 27))
  have p0 := Quad.new w (.bool (decide (n < 0))) (.slice A (natL n.natAbs).length c) (.bool (decide (d < 0))) (.slice B (natL d.natAbs).length e0)
  have V_x := Hd (FV.mk p0 (h_x.below b0) (k_x.below b0))
  have KW_x := Hd k_x
  have RW_x := Hd h_x
  have HBW := Hd b0
  clear b0 p0 h_x k_x
  go_enter Tryz.func107, Tryz.ntmps107
  obtain ⟨W, E⟩ : ∃ W, W = (w.alloc (.cells #[.bool (decide (n < 0)), .slice A (natL n.natAbs).length c, .bool (decide (d < 0)), .slice B (natL d.natAbs).length e0] 27)) := ⟨_, rfl⟩
  go_upto_region 1 with fail
  rw [← E] at V_x HBW ⊢
  clear E
  have HT := Hd (HTW.out.below2 HBW.out)
  clear HTW
  subst hk0
  refine wp_region_free [.val (.pointer (some ⟨w.heap.size, 2, none⟩)) [], .val (.agg #[.bool (decide (d < 0)), .slice B (natL d.natAbs).length e0]) [], .any false (fun u V => IntAt V u one) [], .val (.int .i64 0) [2], .val (.bool true) []] W.heap.size W [] blkInt _ mixedOrders2 (Nat.le_refl _) (Below.refl _ _) (KeptV.refl _ _ _) rfl (by kernel_rfl) (by kernel_rfl) (by kernel_rfl) (by kernel_rfl) (by kernel_rfl) (by kernel_rfl) (by kernel_rfl) (by kernel_rfl) rfl (by simp [oldsF]) ?_ ?_ ?_ ?_
  · simp only [StableF, and_true]
    exact fun u V V' h k => h.keptNone k
  · simp only [OldsF]
  · simp (maxSteps := 4000000) [StepsF, DepF, freeAct, fill, pairs]
    repeat' (first | apply And.intro | (intro (u : Value)) | (intro (u : Nat)))
    all_goals first
    | (intro V hV hK
       have qx := (V_x.out.below hV).quad
       obtain ⟨-, a_x, b_x, c_x, d_x, -, -, -, -⟩ := qx.facts
       clear hV hK qx
       go_simp
       first
       | exact Below.refl _ _
       | ((with_reducible refine (eof 1 one H1.out (by decide) (by decide) V).mono ?_); rintro e w' ⟨v, rfl, hv, hb⟩; exact ⟨hv.at_, hb⟩))
    | (intro V hV hK h1
       have rg := (V_x.out.below hV).den
       obtain ⟨A5, c5, rfl, r5⟩ := h1.form
       clear hV hK h1
       go_simp
       refine (ecmp d one 0 B A5 e0 c5 V rg r5 (by omega) (by omega) HK.out).mono ?_
       rintro e w' ⟨rfl, hb⟩
       exact ⟨rfl, hb⟩)
  · simp [EndF, FactsF, freeAct, fill, pairs]
    intro u1 V hV hK _ _ _ _
    have HBW := Hd (HBW.out.trans (hV.mono HBW.out.size))
    have V_x := Hd (V_x.out.below hV)
    have HT := Hd (HT.out.below2 hV)
    clear hV hK
    obtain ⟨l_x, a_x, b_x, c_x, d_x, -, -, -, -⟩ := V_x.out.quad.facts
    go_wp2_with fail
    refine (C3.out V V_x.out.num HT.out).mono ?_
    rintro e w9 ⟨rfl, hb⟩
    have HF := Hd (belowTo HBW.out hb)
    clear l_x a_x b_x c_x d_x hb
    go_wp2_with fail
    go_ret
    exact ⟨by rw [HD.out, ← HT1.out]; rfl, HF.out⟩

theorem ratio_Digits_more (n d : Int) (A B : Option Addr) (c e0 : Nat) (w : World) (h_x : Raw w A c (natL n.natAbs)) (k_x : Raw w B e0 (natL d.natAbs)) (htab : powTab w) (hn : Fit n) (hd : Fit d) (hd1 : d ≠ 1) :
    Calls Tryz.prog 107 #[.agg #[.bool (decide (n < 0)), .slice A (natL n.natAbs).length c, .bool (decide (d < 0)), .slice B (natL d.natAbs).length e0]] w fun e w' => e = .returned (.string ⟨(fracText n d).toArray⟩) ∧ Below w.heap.size w w' := by
  have HTW := Hd htab
  obtain ⟨one, hone⟩ : ∃ k : Int, k = 1 := ⟨_, rfl⟩
  obtain ⟨k, hk⟩ : ∃ k : Int, k = cmpz d one := ⟨_, rfl⟩
  have H1 := Hd hone
  have HK := Hd hk
  have hnl : lz n ≤ 2048 := hn
  have hdl : lz d ≤ 2048 := hd
  have hol : lz one ≤ 2048 := by rw [hone]; decide
  have C3 := Hd (fun (V : World) (h : Raw V A c (natL n.natAbs)) (htab : powTab V) => exact_Digits (decide (n < 0)) A c _ (canon_natL _) (by unfold lz at hnl; omega) V h htab)
  simp only [ival_at] at C3
  have C4 := Hd (fun (V : World) (h : Raw V B e0 (natL d.natAbs)) (htab : powTab V) => exact_Digits (decide (d < 0)) B e0 _ (canon_natL _) (by unfold lz at hdl; omega) V h htab)
  simp only [ival_at] at C4
  have hk0 : k ≠ 0 := by rw [hk, hone]; unfold cmpz; split <;> (try split) <;> omega
  have hs0 : (k == 0) = false := by simpa using hk0
  have HD := Hd (show fracText n d = Lib.itoa n ++ 47 :: Lib.itoa d from if_neg hd1)
  have f1 := itoa_fit hn
  have f2 := itoa_fit hd
  obtain ⟨t1, ht1⟩ : ∃ t : ByteArray, t = ⟨(Lib.itoa n).toArray⟩ := ⟨_, rfl⟩
  obtain ⟨t2, ht2⟩ : ∃ t : ByteArray, t = ⟨(Lib.itoa d).toArray⟩ := ⟨_, rfl⟩
  have g1 : t1.size ≤ 65537 := by rw [ht1]; simpa [ByteArray.size] using f1
  have g2 : t2.size ≤ 65537 := by rw [ht2]; simpa [ByteArray.size] using f2
  obtain ⟨t3, ht3⟩ : ∃ t : ByteArray, t = t1 ++ ⟨#[47]⟩ := ⟨_, rfl⟩
  have g3 : t3.size = t1.size + 1 := by rw [ht3]; simp [ByteArray.size_append]; rfl
  have HC1 := Hd (show ¬ 9223372036854775807 < t1.size + 1 from by omega)
  have HC2 := Hd (show ¬ 9223372036854775807 < t3.size + t2.size from by omega)
  have HC3 := Hd ht3
  have HTT := Hd (show t3 ++ t2 = ⟨(fracText n d).toArray⟩ from by rw [HD.out, ht3, ht1, ht2, ByteArray.mk_append_mk, ByteArray.mk_append_mk]; simp)
  rw [← ht1] at C3
  rw [← ht2] at C4
  clear htab hone hk hn hd hd1 ht1 ht2 ht3 f1 f2 g1 g2 g3 HD hk0
  have b0 := ((Below.refl w.heap.size w).alloc (Nat.le_refl _) (.cells #[.bool (decide (n < 0)), .slice A (natL n.natAbs).length c, .bool (decide (d < 0)), .slice B (natL d.natAbs).length e0] 27))
  have p0 := Quad.new w (.bool (decide (n < 0))) (.slice A (natL n.natAbs).length c) (.bool (decide (d < 0))) (.slice B (natL d.natAbs).length e0)
  have V_x := Hd (FV.mk p0 (h_x.below b0) (k_x.below b0))
  have KW_x := Hd k_x
  have RW_x := Hd h_x
  have HBW := Hd b0
  clear b0 p0 h_x k_x
  go_enter Tryz.func107, Tryz.ntmps107
  obtain ⟨W, E⟩ : ∃ W, W = (w.alloc (.cells #[.bool (decide (n < 0)), .slice A (natL n.natAbs).length c, .bool (decide (d < 0)), .slice B (natL d.natAbs).length e0] 27)) := ⟨_, rfl⟩
  go_upto_region 1 with fail
  rw [← E] at V_x HBW ⊢
  clear E
  have HT := Hd (HTW.out.below2 HBW.out)
  clear HTW
  refine wp_region_free [.val (.pointer (some ⟨w.heap.size, 2, none⟩)) [], .val (.agg #[.bool (decide (d < 0)), .slice B (natL d.natAbs).length e0]) [], .any false (fun u V => IntAt V u one) [], .val (.int .i64 k) [2], .val (.bool false) []] W.heap.size W [] blkInt _ mixedOrders2 (Nat.le_refl _) (Below.refl _ _) (KeptV.refl _ _ _) rfl (by kernel_rfl) (by kernel_rfl) (by kernel_rfl) (by kernel_rfl) (by kernel_rfl) (by kernel_rfl) (by kernel_rfl) (by kernel_rfl) rfl (by simp [oldsF]) ?_ ?_ ?_ ?_
  · simp only [StableF, and_true]
    exact fun u V V' h k => h.keptNone k
  · simp only [OldsF]
  · simp (maxSteps := 4000000) [StepsF, DepF, freeAct, fill, pairs]
    repeat' (first | apply And.intro | (intro (u : Value)) | (intro (u : Nat)))
    all_goals first
    | (intro V hV hK
       have qx := (V_x.out.below hV).quad
       obtain ⟨-, a_x, b_x, c_x, d_x, -, -, -, -⟩ := qx.facts
       clear hV hK qx
       go_simp
       first
       | exact Below.refl _ _
       | ((with_reducible refine (eof 1 one H1.out (by decide) (by decide) V).mono ?_); rintro e w' ⟨v, rfl, hv, hb⟩; exact ⟨hv.at_, hb⟩))
    | (intro V hV hK h1
       have rg := (V_x.out.below hV).den
       obtain ⟨A5, c5, rfl, r5⟩ := h1.form
       clear hV hK h1
       go_simp
       refine (ecmp d one k B A5 e0 c5 V rg r5 (by omega) (by omega) HK.out).mono ?_
       rintro e w' ⟨rfl, hb⟩
       exact ⟨rfl, hb⟩)
  · simp [EndF, FactsF, freeAct, fill, pairs]
    intro u1 V hV hK _ _ _ _
    have HBW := Hd (HBW.out.trans (hV.mono HBW.out.size))
    have V_x := Hd (V_x.out.below hV)
    have HT := Hd (HT.out.below2 hV)
    have hV1 := HBW.out.size
    clear hV hK
    clear hs0
    go_wp2_with fail
    refine wp_region_free [.val (.pointer (some ⟨w.heap.size, 0, none⟩)) [], .val (.agg #[.bool (decide (n < 0)), .slice A (natL n.natAbs).length c]) [], .val (.string t1) [], .val (.string t3) [], .val (.pointer (some ⟨w.heap.size, 2, none⟩)) [], .val (.agg #[.bool (decide (d < 0)), .slice B (natL d.natAbs).length e0]) [], .val (.string t2) [], .val (.string (t3 ++ t2)) [], .val (.string (t3 ++ t2)) []] V.heap.size V [] blkInt _ mixedOrders2 (Nat.le_refl _) (Below.refl _ _) (KeptV.refl _ _ _) rfl (by kernel_rfl) (by kernel_rfl) (by kernel_rfl) (by kernel_rfl) (by kernel_rfl) (by kernel_rfl) (by kernel_rfl) (by kernel_rfl) rfl (by simp [oldsF]) ?_ ?_ ?_ ?_
    · simp only [StableF]
    · simp only [OldsF]
    · simp (maxSteps := 4000000) [StepsF, DepF, freeAct, fill, pairs]
      repeat' (first | apply And.intro | (intro (u : Value)) | (intro (u : Nat)))
      all_goals first
      | (intro V' hV hK
         have qx := V_x.out.below hV
         have ht := HT.out.below2 hV
         obtain ⟨-, a_x, b_x, c_x, d_x, -, -, -, -⟩ := qx.quad.facts
         clear hV hK
         go_simp
         first
         | exact Below.refl _ _
         | (rw [if_neg HC1.out, ← HC3.out]; go_simp; exact Below.refl _ _)
         | (rw [if_neg HC2.out]; go_simp; exact Below.refl _ _)
         | ((with_reducible refine (C3.out V' qx.num ht).mono ?_); rintro e w' ⟨rfl, hb⟩; exact ⟨rfl, hb⟩)
         | ((with_reducible refine (C4.out V' qx.den ht).mono ?_); rintro e w' ⟨rfl, hb⟩; exact ⟨rfl, hb⟩))
    · simp [EndF, FactsF, freeAct, fill, pairs]
      intro V' hV hK _ _ _
      have HF := Hd (HBW.out.trans (hV.mono hV1))
      clear hV hK hV1
      go_wp2_with fail
      go_ret
      exact ⟨by rw [← HTT.out]; rfl, HF.out⟩

theorem ratio_Digits (n d : Int) (A B : Option Addr) (c e0 : Nat) (w : World) (h : Raw w A c (natL n.natAbs)) (g : Raw w B e0 (natL d.natAbs)) (htab : powTab w) (hn : Fit n) (hd : Fit d) :
    Calls Tryz.prog 107 #[.agg #[.bool (decide (n < 0)), .slice A (natL n.natAbs).length c, .bool (decide (d < 0)), .slice B (natL d.natAbs).length e0]] w fun e w' => e = .returned (.string ⟨(fracText n d).toArray⟩) ∧ Below w.heap.size w w' := by
  by_cases h1 : d = 1
  · exact ratio_Digits_one n d A B c e0 w h g htab hn hd h1
  · exact ratio_Digits_more n d A B c e0 w h g htab hn hd h1

theorem ratio_Sign (n s : Int) (d : Int) (A B : Option Addr) (c e0 : Nat) (w : World) (h : Raw w A c (natL n.natAbs)) (hs : s = n.sign) :
    Calls Tryz.prog 117 #[.agg #[.bool (decide (n < 0)), .slice A (natL n.natAbs).length c, .bool (decide (d < 0)), .slice B (natL d.natAbs).length e0]] w fun e w' => e = .returned (.int .i64 s) ∧ Below w.heap.size w w' := by
  have px := Quad.new w (.bool (decide (n < 0))) (.slice A (natL n.natAbs).length c) (.bool (decide (d < 0))) (.slice B (natL d.natAbs).length e0)
  have b0 := (Below.refl w.heap.size w).alloc (Nat.le_refl _) (.cells #[.bool (decide (n < 0)), .slice A (natL n.natAbs).length c, .bool (decide (d < 0)), .slice B (natL d.natAbs).length e0] 27)
  have C := Hd (esign n s A c _ (h.below b0) hs)
  have B0 := Hd b0
  obtain ⟨-, x0, x1, x2, x3, -, -, -, -⟩ := px.facts
  clear h hs px b0
  go_enter Tryz.func117, Tryz.ntmps117
  go_wp2_with fail
  refine C.out.mono ?_
  rintro e w1 ⟨rfl, hb⟩
  have HF := Hd (belowTo B0.out hb)
  clear x0 x1 x2 x3 hb
  go_wp2_with fail
  go_ret
  exact ⟨rfl, HF.out⟩

theorem frac_Sign_good (n d s : Int) (A B : Option Addr) (c e0 : Nat) (w : World) (h : Raw w A c (natL n.natAbs)) (g : Raw w B e0 (natL d.natAbs)) (hc : chkE (decide (n < 0)) (decide (d < 0)) (natL n.natAbs) (natL d.natAbs) = 0) (hs : s = n.sign) :
    Calls Tryz.prog 36 #[.agg #[.bool (decide (n < 0)), .slice A (natL n.natAbs).length c, .bool (decide (d < 0)), .slice B (natL d.natAbs).length e0]] w fun e w' => e = .returned (.int .i64 s) ∧ Below w.heap.size w w' := by
  have C1 := fun (V : World) (g' : Nat) (h : Raw V A c (natL n.natAbs)) (g : Raw V B e0 (natL d.natAbs)) (hg : V.heap.size = g') => checks_new (decide (n < 0)) (decide (d < 0)) A B c e0 _ _ V g' h g hg
  rw [hc] at C1
  have H1 := Hd C1
  have H2 := Hd (fun (V : World) (h : Raw V A c (natL n.natAbs)) => ratio_Sign n s d A B c e0 V h hs)
  clear C1 hc hs
  have px := Quad.new w (.bool (decide (n < 0))) (.slice A (natL n.natAbs).length c) (.bool (decide (d < 0))) (.slice B (natL d.natAbs).length e0)
  have b0 := (Below.refl w.heap.size w).alloc (Nat.le_refl _) (.cells #[.bool (decide (n < 0)), .slice A (natL n.natAbs).length c, .bool (decide (d < 0)), .slice B (natL d.natAbs).length e0] 27)
  have h1 := h.below b0
  have g1 := g.below b0
  have PX := Hd px
  have B0 := Hd b0
  have RX := Hd h1
  have RY := Hd g1
  clear px b0 h g h1 g1
  go_enter Tryz.func36, Tryz.ntmps36
  obtain ⟨W, E⟩ : ∃ W, W = w.alloc (.cells #[.bool (decide (n < 0)), .slice A (natL n.natAbs).length c, .bool (decide (d < 0)), .slice B (natL d.natAbs).length e0] 27) := ⟨_, rfl⟩
  go_upto_region 1 with fail
  rw [← E] at PX B0 RX RY ⊢
  clear E
  obtain ⟨l_x, a_x, b_x, c_x, d_x, -, -, -, -⟩ := PX.out.facts
  go_wp2_with fail
  refine (H1.out W _ RX.out RY.out rfl).mono ?_
  rintro e w1 ⟨rfl, hb⟩
  have PX := Hd ((PX.out.alloc (.cells #[.bool (decide (n < 0)), .slice A (natL n.natAbs).length c, .bool (decide (d < 0)), .slice B (natL d.natAbs).length e0] 27)).below hb)
  have BB := Hd (belowTo (B0.out.alloc B0.out.size (.cells #[.bool (decide (n < 0)), .slice A (natL n.natAbs).length c, .bool (decide (d < 0)), .slice B (natL d.natAbs).length e0] 27)) hb)
  have RX := Hd ((RX.out.alloc (.cells #[.bool (decide (n < 0)), .slice A (natL n.natAbs).length c, .bool (decide (d < 0)), .slice B (natL d.natAbs).length e0] 27)).below hb)
  have RY := Hd ((RY.out.alloc (.cells #[.bool (decide (n < 0)), .slice A (natL n.natAbs).length c, .bool (decide (d < 0)), .slice B (natL d.natAbs).length e0] 27)).below hb)
  clear B0 hb l_x a_x b_x c_x d_x
  obtain ⟨l_x, a_x, b_x, c_x, d_x, -, -, -, -⟩ := PX.out.facts
  go_wp2_with fail
  refine (H2.out w1 RX.out).mono ?_
  rintro e w2 ⟨rfl, hb⟩
  have HF := Hd (belowTo BB.out hb)
  clear hb l_x a_x b_x c_x d_x
  go_wp2_with fail
  go_ret
  exact ⟨rfl, HF.out⟩

theorem frac_Text_good (n d : Int) (t : ByteArray) (A B : Option Addr) (c e0 : Nat) (w : World) (h : Raw w A c (natL n.natAbs)) (g : Raw w B e0 (natL d.natAbs)) (htab : powTab w) (hn : Fit n) (hd : Fit d) (hc : chkE (decide (n < 0)) (decide (d < 0)) (natL n.natAbs) (natL d.natAbs) = 0) (ht : t = ⟨(fracText n d).toArray⟩) (hsz : t.size ≤ 65536) :
    Calls Tryz.prog 28 #[.agg #[.bool (decide (n < 0)), .slice A (natL n.natAbs).length c, .bool (decide (d < 0)), .slice B (natL d.natAbs).length e0]] w fun e w' => e = .returned (.tuple #[.string t, .int .i64 0]) ∧ Below w.heap.size w w' := by
  have C1 := fun (V : World) (g' : Nat) (h : Raw V A c (natL n.natAbs)) (g : Raw V B e0 (natL d.natAbs)) (hg : V.heap.size = g') => checks_new (decide (n < 0)) (decide (d < 0)) A B c e0 _ _ V g' h g hg
  rw [hc] at C1
  have C2 := fun (V : World) (h : Raw V A c (natL n.natAbs)) (g : Raw V B e0 (natL d.natAbs)) (htab : powTab V) => ratio_Digits n d A B c e0 V h g htab hn hd
  rw [← ht] at C2
  have H1 := Hd C1
  have H2 := Hd C2
  have HTW := Hd htab
  have hz : (t.size : Int) ≤ 65536 := by omega
  clear C1 C2 hc ht htab hn hd hsz
  have px := Quad.new w (.bool (decide (n < 0))) (.slice A (natL n.natAbs).length c) (.bool (decide (d < 0))) (.slice B (natL d.natAbs).length e0)
  have b0 := (Below.refl w.heap.size w).alloc (Nat.le_refl _) (.cells #[.bool (decide (n < 0)), .slice A (natL n.natAbs).length c, .bool (decide (d < 0)), .slice B (natL d.natAbs).length e0] 27)
  have h1 := h.below b0
  have g1 := g.below b0
  have PX := Hd px
  have B0 := Hd b0
  have RX := Hd h1
  have RY := Hd g1
  clear px b0 h g h1 g1
  go_enter Tryz.func28, Tryz.ntmps28
  obtain ⟨W, E⟩ : ∃ W, W = w.alloc (.cells #[.bool (decide (n < 0)), .slice A (natL n.natAbs).length c, .bool (decide (d < 0)), .slice B (natL d.natAbs).length e0] 27) := ⟨_, rfl⟩
  go_upto_region 1 with fail
  rw [← E] at PX B0 RX RY ⊢
  clear E
  obtain ⟨l_x, a_x, b_x, c_x, d_x, -, -, -, -⟩ := PX.out.facts
  go_wp2_with fail
  refine (H1.out W _ RX.out RY.out rfl).mono ?_
  rintro e w1 ⟨rfl, hb⟩
  have PX := Hd ((PX.out.alloc (.cells #[.bool (decide (n < 0)), .slice A (natL n.natAbs).length c, .bool (decide (d < 0)), .slice B (natL d.natAbs).length e0] 27)).below hb)
  have BB := Hd (belowTo (B0.out.alloc B0.out.size (.cells #[.bool (decide (n < 0)), .slice A (natL n.natAbs).length c, .bool (decide (d < 0)), .slice B (natL d.natAbs).length e0] 27)) hb)
  have RX := Hd ((RX.out.alloc (.cells #[.bool (decide (n < 0)), .slice A (natL n.natAbs).length c, .bool (decide (d < 0)), .slice B (natL d.natAbs).length e0] 27)).below hb)
  have RY := Hd ((RY.out.alloc (.cells #[.bool (decide (n < 0)), .slice A (natL n.natAbs).length c, .bool (decide (d < 0)), .slice B (natL d.natAbs).length e0] 27)).below hb)
  have HT := Hd (HTW.out.below2 BB.out)
  clear HTW B0 hb l_x a_x b_x c_x d_x
  obtain ⟨l_x, a_x, b_x, c_x, d_x, -, -, -, -⟩ := PX.out.facts
  go_wp2_with fail
  refine (H2.out w1 RX.out RY.out HT.out).mono ?_
  rintro e w2 ⟨rfl, hb⟩
  have HF := Hd (belowTo BB.out hb)
  clear hb l_x a_x b_x c_x d_x
  go_wp2_with fail
  go_ret2
  exact ⟨rfl, HF.out⟩
/- Lowest of package ratio over numbers of the call's own; Lowest of the references. (Written by wip/frac/genlowestown.py.) -/

def RetFracIn (w : World) (n d : Int) (e : Ending) (w' : World) : Prop := ∃ v, e = .returned v ∧ FracIn w' 0 v n d ∧ Below w.heap.size w w'
theorem IntOwn.quad {w : World} {base g : Nat} {v' a b c d : Value} {n : Int} (hi : IntOwn w base v' n) (q : Quad w g a b c d) (x y z u : Value) : IntOwn ((((w.setCell ⟨g, 0, none⟩ x).setCell ⟨g, 1, none⟩ y).setCell ⟨g, 2, none⟩ z).setCell ⟨g, 3, none⟩ u) base v' n := by
  obtain ⟨A', c', a1, a2, a3, a4⟩ := hi.form
  have hne := own_blk_ne a4 q.blk (by decide)
  refine ⟨A', c', a1, a2, a3, a4.1, ?_⟩
  rcases a4.2 with p | ⟨g', cap, cur, p1, p2, p3, p4⟩
  · exact .inl p
  · refine .inr ⟨g', cap, cur, p1, p2, ?_, p4⟩
    have hg : g' ≠ g := fun e => by
      rw [p1] at hne
      exact hne (by simp [Value.ownBlock, e])
    rw [Below.heap_setCell _ ⟨g, 3, none⟩ u g' hg, Below.heap_setCell _ ⟨g, 2, none⟩ z g' hg, Below.heap_setCell _ ⟨g, 1, none⟩ y g' hg, Below.heap_setCell _ ⟨g, 0, none⟩ x g' hg]
    exact p3

theorem elow_one_neg (n d : Int) (A B : Option Addr) (c e0 : Nat) (w : World) (h_n : Raw w A c (natL n.natAbs)) (h_d : Raw w B e0 (natL d.natAbs)) (o_n : IntOwn w 0 (.agg #[.bool (decide (n < 0)), .slice A (natL n.natAbs).length c]) n) (o_d : IntOwn w 0 (.agg #[.bool (decide (d < 0)), .slice B (natL d.natAbs).length e0]) d) (hn : lz n ≤ 400000000) (hd : lz d ≤ 400000000) (hd0 : d ≠ 0) (hs0 : d < 0) (hgc : gcdZ n d = 1) :
    Calls Tryz.prog 194 #[.agg #[.bool (decide (n < 0)), .slice A (natL n.natAbs).length c], .agg #[.bool (decide (d < 0)), .slice B (natL d.natAbs).length e0]] w (RetFracIn w (lowN n d) (lowD n d)) := by
  obtain ⟨g, hg⟩ : ∃ k : Int, k = gcdZ n d := ⟨_, rfl⟩
  obtain ⟨one, hone⟩ : ∃ k : Int, k = 1 := ⟨_, rfl⟩
  obtain ⟨q, hq⟩ : ∃ k : Int, k = n.tdiv g := ⟨_, rfl⟩
  obtain ⟨r, hr⟩ : ∃ k : Int, k = n.tmod g := ⟨_, rfl⟩
  obtain ⟨p, hp⟩ : ∃ k : Int, k = d.tdiv g := ⟨_, rfl⟩
  obtain ⟨s, hs⟩ : ∃ k : Int, k = d.tmod g := ⟨_, rfl⟩
  obtain ⟨q', hq'⟩ : ∃ k : Int, k = -q := ⟨_, rfl⟩
  obtain ⟨p', hp'⟩ : ∃ k : Int, k = -p := ⟨_, rfl⟩
  have hgp := gcdZ_pos (n := n) hd0
  have hgl := gcdZ_lz (n := n) hd0
  rw [← hg] at hgp hgl hgc
  have hql : lz q ≤ lz n := by rw [hq]; exact tdiv_lz n g
  have hpl : lz p ≤ lz d := by rw [hp]; exact tdiv_lz d g
  have hps : p.sign = d.sign := by rw [hp, hg]; exact tdiv_sign hd0
  have hol : lz one ≤ 2 := by rw [hone]; decide
  obtain ⟨sg, hsg⟩ : ∃ k : Int, k = p.sign := ⟨_, rfl⟩
  have HSG := Hd hsg
  have HSN := Hd (show decide (sg < 0) = true from by
    rw [hsg, hps]
    exact decide_eq_true (by rw [Int.sign_eq_neg_one_of_neg hs0]; decide))
  have HG := Hd (show g = ((Nat.gcd n.natAbs d.natAbs : Nat) : Int) from hg)
  have H1 := Hd hone
  have HG0 := Hd (show g ≠ 0 from by omega)
  have HQ := Hd (And.intro hq hr)
  have HP := Hd (And.intro hp hs)
  have HN1 := Hd hq'
  have HN2 := Hd hp'
  have HK := Hd (show (0 : Int) = cmpz g one from by rw [hone]; rw [hgc]; decide)
  have HLN := Hd (show lowN n d = q' ∧ lowD n d = p' from by
    unfold lowN lowD
    rw [if_pos hs0, if_pos hs0, ← hg, ← hq, ← hp, hq', hp']
    exact ⟨rfl, rfl⟩)
  have HQN := Hd (show q = n ∧ p = d from by rw [hq, hp, hgc]; exact ⟨Int.tdiv_one _, Int.tdiv_one _⟩)
  have OW_n := Hd o_n
  have OW_d := Hd o_d
  clear o_n o_d
  clear hgc hg hone hq hr hp hs hq' hp' hs0 hsg hps hd0
  have b0 := ((((Below.refl w.heap.size w).alloc (Nat.le_refl _) (.cells #[.bool (decide (n < 0)), .slice A (natL n.natAbs).length c] 25)).alloc (by simp) (.cells #[.bool (decide (d < 0)), .slice B (natL d.natAbs).length e0] 25)).alloc (by simp; omega) (.cells #[.bool false, .slice none 0 0, .bool false, .slice none 0 0] 27))
  have p0 := ((Pair.new w 25 (.bool (decide (n < 0))) (.slice A (natL n.natAbs).length c)).alloc (.cells #[.bool (decide (d < 0)), .slice B (natL d.natAbs).length e0] 25)).alloc (.cells #[.bool false, .slice none 0 0, .bool false, .slice none 0 0] 27)
  have p1 := (Pair.new (w.alloc (.cells #[.bool (decide (n < 0)), .slice A (natL n.natAbs).length c] 25)) 25 (.bool (decide (d < 0))) (.slice B (natL d.natAbs).length e0)).alloc (.cells #[.bool false, .slice none 0 0, .bool false, .slice none 0 0] 27)
  have p2 := Quad.new ((w.alloc (.cells #[.bool (decide (n < 0)), .slice A (natL n.natAbs).length c] 25)).alloc (.cells #[.bool (decide (d < 0)), .slice B (natL d.natAbs).length e0] 25)) (.bool false) (.slice none 0 0) (.bool false) (.slice none 0 0)
  simp only [World.size_alloc] at p1 p2
  have V_n := Hd (NV.of h_n b0 p0)
  have V_d := Hd (NV.of h_d b0 p1)
  have P_r0 := Hd p2
  have RW_n := Hd h_n
  have RW_d := Hd h_d
  have HBW := Hd b0
  clear b0 p0 p1 p2 h_n h_d
  go_enter Tryz.func194, Tryz.ntmps194
  obtain ⟨W, E⟩ : ∃ W, W = (((w.alloc (.cells #[.bool (decide (n < 0)), .slice A (natL n.natAbs).length c] 25)).alloc (.cells #[.bool (decide (d < 0)), .slice B (natL d.natAbs).length e0] 25)).alloc (.cells #[.bool false, .slice none 0 0, .bool false, .slice none 0 0] 27)) := ⟨_, rfl⟩
  go_upto_region 1 with fail
  rw [← E] at V_n V_d P_r0 HBW ⊢
  clear E
  have hsz := P_r0.out.blk.lt
  have O_n0 := Hd (OW_n.out.below HBW.out)
  have O_d0 := Hd (OW_d.out.below HBW.out)
  clear OW_n OW_d
  obtain ⟨l_n, a_n, b_n, -, -⟩ := V_n.out.pair.facts
  obtain ⟨l_d, a_d, b_d, -, -⟩ := V_d.out.pair.facts
  go_wp2_with fail
  refine (ecommon n d g A B c e0 W V_n.out.raw V_d.out.raw (by omega) (by omega) HG.out).mono ?_
  rintro e x1 ⟨v, rfl, hI, hb⟩
  obtain ⟨A1, c1, rfl, r1⟩ := hI.raw
  have hIg := hI.base (Nat.zero_le _)
  have hszg := hb.size
  clear l_n a_n b_n l_d a_d b_d
  have V_n := Hd (V_n.out.below hb)
  have V_d := Hd (V_d.out.below hb)
  have P_r0 := Hd (P_r0.out.below hb)
  have O_n0 := Hd (O_n0.out.below hb)
  have O_d0 := Hd (O_d0.out.below hb)
  have HBW := Hd (belowTo HBW.out hb)
  have R_g := Hd r1
  clear hb r1
  have O_g := Hd hIg
  clear hI hIg
  go_upto_region 2 with fail
  have ha := ((Below.refl x1.heap.size x1).alloc (Nat.le_refl _) (.cells #[.bool (decide (g < 0)), .slice A1 (natL g.natAbs).length c1] 25))
  have p_g := (Pair.new x1 25 (.bool (decide (g < 0))) (.slice A1 (natL g.natAbs).length c1))
  obtain ⟨y2, E⟩ : ∃ W, W = (x1.alloc (.cells #[.bool (decide (g < 0)), .slice A1 (natL g.natAbs).length c1] 25)) := ⟨_, rfl⟩
  rw [← E] at ha p_g ⊢
  have V_g := Hd (NV.of R_g.out ha p_g)
  have V_n := Hd (V_n.out.below ha)
  have V_d := Hd (V_d.out.below ha)
  have P_r0 := Hd (P_r0.out.below ha)
  have O_n0 := Hd (O_n0.out.below ha)
  have O_d0 := Hd (O_d0.out.below ha)
  have O_g := Hd (O_g.out.below ha)
  have HBW := Hd (belowTo HBW.out ha)
  obtain ⟨g2, hg⟩ : ∃ g, g = x1.heap.size := ⟨_, rfl⟩
  rw [← hg] at V_g ⊢
  have hge2 : x1.heap.size ≤ g2 := by omega
  clear E ha hg p_g
  go_wp2_with fail
  obtain ⟨W0, hW⟩ : ∃ W0, W0 = y2 := ⟨_, rfl⟩
  rw [← hW] at HBW P_r0 O_n0 O_d0 O_g V_n V_d V_g  ⊢
  clear hW
  refine wp_region_free [.val (.agg #[.bool (decide (g < 0)), .slice A1 (natL g.natAbs).length c1]) [], .any false (fun u0 V => IntAt V u0 one) [], .val (.int .i64 0) [1], .val (.bool false) []] W0.heap.size W0 [] (fun _ _ => False) _ mixedOrders2 (Nat.le_refl _) (Below.refl _ _) (KeptV.refl _ _ _) rfl (by kernel_rfl) (by kernel_rfl) (by kernel_rfl) (by kernel_rfl) (by kernel_rfl) (by kernel_rfl) (by kernel_rfl) (by kernel_rfl) rfl (by simp [oldsF]) ?_ ?_ ?_ ?_
  · simp only [StableF, and_true]
    exact fun u0 V V' h k => h.keptNone k
  · simp only [OldsF]
  · simp (maxSteps := 4000000) [StepsF, DepF, freeAct, fill, pairs]
    repeat' (first | apply And.intro | (intro (u0 : Value)))
    all_goals first
    | (intro V hV hK
       obtain ⟨-, a_g, b_g, -, -⟩ := (V_g.out.below hV).pair.facts
       have r_g := Hd (V_g.out.below hV).raw
       clear hV hK
       go_simp
       first
       | exact Below.refl _ _
       | exact ⟨by first | rfl | decide | go_num, Below.refl _ _⟩
       | ((with_reducible refine (eof 1 one H1.out (by decide) (by decide) V).mono ?_); rintro e w' ⟨v, rfl, hv, hb⟩; exact ⟨hv.at_, hb⟩))
    | (intro V hV hK hu
       obtain ⟨A', c', rfl, hr⟩ := hu.form
       have r_g := Hd (V_g.out.below hV).raw
       have r' := Hd hr
       clear hV hK hu hr
       go_simp
       (with_reducible refine (ecmp g one 0 A1 A' c1 c' V r_g.out r'.out (by omega) (by omega) HK.out).mono ?_)
       rintro e w' ⟨rfl, hb⟩
       exact ⟨rfl, hb⟩)
  · simp [EndF, FactsF, freeAct, fill, pairs]
    intro u1 V hV hK _ _ _ _
    have V_n := Hd (V_n.out.below hV)
    have V_d := Hd (V_d.out.below hV)
    have V_g := Hd (V_g.out.below hV)
    have P_r0 := Hd (P_r0.out.below hV)
    have O_n0 := Hd (O_n0.out.below hV)
    have O_d0 := Hd (O_d0.out.below hV)
    have O_g := Hd (O_g.out.below hV)
    have HBW := Hd (belowTo HBW.out hV)
    clear hV hK
    obtain ⟨v3, hV0⟩ : ∃ Y, Y = V := ⟨_, rfl⟩
    rw [← hV0] at HBW P_r0 O_n0 O_d0 O_g V_n V_d V_g  ⊢
    clear hV0
    obtain ⟨rfl, rfl⟩ := HQN.out
    have hsn := HSN.out
    obtain ⟨l_d, a_d, b_d, -, -⟩ := V_d.out.pair.facts
    go_wp2_with fail
    refine (esign p sg B e0 v3 V_d.out.raw HSG.out).mono ?_
    rintro e x4 ⟨rfl, hb⟩
    clear l_d a_d b_d
    have V_n := Hd (V_n.out.below hb)
    have V_d := Hd (V_d.out.below hb)
    have V_g := Hd (V_g.out.below hb)
    have P_r0 := Hd (P_r0.out.below hb)
    have O_n0 := Hd (O_n0.out.below hb)
    have O_d0 := Hd (O_d0.out.below hb)
    have O_g := Hd (O_g.out.below hb)
    have HBW := Hd (belowTo HBW.out hb)
    clear hb
    go_upto_region 6 with fail
    clear hsn
    go_wp2_with fail
    have hszz := P_r0.out.blk.lt
    refine wp_region_free [.val (.agg #[.bool (decide (q < 0)), .slice A (natL q.natAbs).length c]) [1004], .any false (fun u V => IntOwn V 0 u q') [], .val (.agg #[.bool (decide (p < 0)), .slice B (natL p.natAbs).length e0]) [1005], .any false (fun u V => IntOwn V 0 u p') [], .old (w.heap.size) 25 #[.bool (decide (q < 0)), .slice A (natL q.natAbs).length c] 0 2 1 [], .old (w.heap.size + 1) 25 #[.bool (decide (p < 0)), .slice B (natL p.natAbs).length e0] 0 2 3 []] w.heap.size x4 [25] (fun _ _ => False) _ mixedOrders2 (by omega) (Below.refl _ _) (KeptV.refl _ _ _) rfl (by kernel_rfl) (by kernel_rfl) (by kernel_rfl) (by kernel_rfl) (by kernel_rfl) (by kernel_rfl) (by kernel_rfl) (by kernel_rfl) rfl (by simp [oldsF]) ?_ ?_ ?_ ?_
    · simp only [StableF, and_true]
      exact ⟨fun u V V' h k => h.kept k (by decide), fun u V V' h k => h.kept k (by decide)⟩
    · simp only [OldsF, and_true]
      exact ⟨⟨by omega, by omega, V_n.out.pair.blk, by simp⟩, by omega, by omega, V_d.out.pair.blk, by simp⟩
    · simp (maxSteps := 4000000) [StepsF, DepF, freeAct, fill, pairs]
      repeat' (first | apply And.intro | (intro (u : Value)) | (intro (u : Nat)))
      all_goals try exact ⟨_, _, _, rfl, rfl, rfl, rfl, intInfo⟩
      all_goals first
      | (intro V hV hK hp
         obtain ⟨-, a_p, b_p, -, -⟩ := (Pair.mk hp).facts
         clear hV hK hp
         go_simp
         exact Below.refl _ _)
      | (intro V hV hK
         have rn := Hd ((O_n0.out.kept hK (by decide)).rawAt)
         have rd := Hd ((O_d0.out.kept hK (by decide)).rawAt)
         clear hV hK
         go_simp
         first
         | ((with_reducible refine (eturned q q' A c V rn.out (by omega) HN1.out).mono ?_); rintro e w' ⟨v, rfl, hv, hb⟩; exact ⟨hv.base (Nat.zero_le _), hb⟩)
         | ((with_reducible refine (eturned p p' B e0 V rd.out (by omega) HN2.out).mono ?_); rintro e w' ⟨v, rfl, hv, hb⟩; exact ⟨hv.base (Nat.zero_le _), hb⟩))
      | exact fun _ _ _ (h : IntOwn _ _ _ _) => h.cells
    · simp [EndF, FactsF, freeAct, fill, pairs]
      intro u1 u2 V hV hK h1 h2 p1 p2 _ _ _
      obtain ⟨A6, c6, rfl, r6⟩ := h1.raw
      obtain ⟨A7, c7, rfl, r7⟩ := h2.raw
      simp [setAll, Value.cells] at p1 p2
      have V_n := Hd (show NV V (w.heap.size) q' A6 c6 from ⟨⟨p1⟩, r6⟩)
      have V_d := Hd (show NV V (w.heap.size + 1) p' A7 c7 from ⟨⟨p2⟩, r7⟩)
      have HBW := Hd (HBW.out.trans hV)
      have P_r0 := Hd (show Quad V _ _ _ _ _ from ⟨hK.blk P_r0.out.blk (by decide)⟩)
      have O_n9 := Hd h1
      have O_d9 := Hd h2
      clear hV hK h1 h2 p1 p2 r6 r7
      obtain ⟨l_n, a_n, b_n, -, -⟩ := V_n.out.pair.facts
      obtain ⟨l_d, a_d, b_d, -, -⟩ := V_d.out.pair.facts
      obtain ⟨l_r, c_r0, c_r1, c_r2, c_r3, f_r0, f_r1, f_r2, f_r3⟩ := P_r0.out.facts
      have HQ9 := Hd (P_r0.out.store (.bool (decide (q' < 0))) (.slice A6 (natL q'.natAbs).length c6) (.bool (decide (p' < 0))) (.slice A7 (natL p'.natAbs).length c7))
      have HB9 := Hd (below4 HBW.out (show w.heap.size ≤ w.heap.size + 1 + 1 by omega) (.bool (decide (q' < 0))) (.slice A6 (natL q'.natAbs).length c6) (.bool (decide (p' < 0))) (.slice A7 (natL p'.natAbs).length c7))
      have HF := Hd (show FracIn ((((V.setCell ⟨w.heap.size + 1 + 1, 0, none⟩ (.bool (decide (q' < 0)))).setCell ⟨w.heap.size + 1 + 1, 1, none⟩ (.slice A6 (natL q'.natAbs).length c6)).setCell ⟨w.heap.size + 1 + 1, 2, none⟩ (.bool (decide (p' < 0)))).setCell ⟨w.heap.size + 1 + 1, 3, none⟩ (.slice A7 (natL p'.natAbs).length c7)) 0 (.agg #[.bool (decide (q' < 0)), .slice A6 (natL q'.natAbs).length c6, .bool (decide (p' < 0)), .slice A7 (natL p'.natAbs).length c7]) q' p' from ⟨_, _, _, _, rfl, O_n9.out.quad P_r0.out _ _ _ _, O_d9.out.quad P_r0.out _ _ _ _⟩)
      go_wp2_with fail
      obtain ⟨_, k0, k1, k2, k3, _⟩ := HQ9.out.facts
      exact bodyPost_ret (by simp [results, Tryz.results194, go_sem, k0, k1, k2, k3]) rfl ⟨.agg #[.bool (decide (q' < 0)), .slice A6 (natL q'.natAbs).length c6, .bool (decide (p' < 0)), .slice A7 (natL p'.natAbs).length c7], rfl, by rw [HLN.out.1, HLN.out.2]; exact HF.out, HB9.out⟩

theorem elow_one_pos (n d : Int) (A B : Option Addr) (c e0 : Nat) (w : World) (h_n : Raw w A c (natL n.natAbs)) (h_d : Raw w B e0 (natL d.natAbs)) (o_n : IntOwn w 0 (.agg #[.bool (decide (n < 0)), .slice A (natL n.natAbs).length c]) n) (o_d : IntOwn w 0 (.agg #[.bool (decide (d < 0)), .slice B (natL d.natAbs).length e0]) d) (hn : lz n ≤ 400000000) (hd : lz d ≤ 400000000) (hd0 : d ≠ 0) (hs0 : ¬ d < 0) (hgc : gcdZ n d = 1) :
    Calls Tryz.prog 194 #[.agg #[.bool (decide (n < 0)), .slice A (natL n.natAbs).length c], .agg #[.bool (decide (d < 0)), .slice B (natL d.natAbs).length e0]] w (RetFracIn w (lowN n d) (lowD n d)) := by
  obtain ⟨g, hg⟩ : ∃ k : Int, k = gcdZ n d := ⟨_, rfl⟩
  obtain ⟨one, hone⟩ : ∃ k : Int, k = 1 := ⟨_, rfl⟩
  obtain ⟨q, hq⟩ : ∃ k : Int, k = n.tdiv g := ⟨_, rfl⟩
  obtain ⟨r, hr⟩ : ∃ k : Int, k = n.tmod g := ⟨_, rfl⟩
  obtain ⟨p, hp⟩ : ∃ k : Int, k = d.tdiv g := ⟨_, rfl⟩
  obtain ⟨s, hs⟩ : ∃ k : Int, k = d.tmod g := ⟨_, rfl⟩
  obtain ⟨q', hq'⟩ : ∃ k : Int, k = -q := ⟨_, rfl⟩
  obtain ⟨p', hp'⟩ : ∃ k : Int, k = -p := ⟨_, rfl⟩
  have hgp := gcdZ_pos (n := n) hd0
  have hgl := gcdZ_lz (n := n) hd0
  rw [← hg] at hgp hgl hgc
  have hql : lz q ≤ lz n := by rw [hq]; exact tdiv_lz n g
  have hpl : lz p ≤ lz d := by rw [hp]; exact tdiv_lz d g
  have hps : p.sign = d.sign := by rw [hp, hg]; exact tdiv_sign hd0
  have hol : lz one ≤ 2 := by rw [hone]; decide
  obtain ⟨sg, hsg⟩ : ∃ k : Int, k = p.sign := ⟨_, rfl⟩
  have HSG := Hd hsg
  have HSN := Hd (show decide (sg < 0) = false from by
    rw [hsg, hps]
    exact decide_eq_false (by have := sign_cases d; omega))
  have HG := Hd (show g = ((Nat.gcd n.natAbs d.natAbs : Nat) : Int) from hg)
  have H1 := Hd hone
  have HG0 := Hd (show g ≠ 0 from by omega)
  have HQ := Hd (And.intro hq hr)
  have HP := Hd (And.intro hp hs)
  have HN1 := Hd hq'
  have HN2 := Hd hp'
  have HK := Hd (show (0 : Int) = cmpz g one from by rw [hone]; rw [hgc]; decide)
  have HLN := Hd (show lowN n d = q ∧ lowD n d = p from by
    unfold lowN lowD
    rw [if_neg hs0, if_neg hs0, ← hg, ← hq, ← hp]
    exact ⟨rfl, rfl⟩)
  have HQN := Hd (show q = n ∧ p = d from by rw [hq, hp, hgc]; exact ⟨Int.tdiv_one _, Int.tdiv_one _⟩)
  have OW_n := Hd o_n
  have OW_d := Hd o_d
  clear o_n o_d
  clear hgc hg hone hq hr hp hs hq' hp' hs0 hsg hps hd0
  have b0 := ((((Below.refl w.heap.size w).alloc (Nat.le_refl _) (.cells #[.bool (decide (n < 0)), .slice A (natL n.natAbs).length c] 25)).alloc (by simp) (.cells #[.bool (decide (d < 0)), .slice B (natL d.natAbs).length e0] 25)).alloc (by simp; omega) (.cells #[.bool false, .slice none 0 0, .bool false, .slice none 0 0] 27))
  have p0 := ((Pair.new w 25 (.bool (decide (n < 0))) (.slice A (natL n.natAbs).length c)).alloc (.cells #[.bool (decide (d < 0)), .slice B (natL d.natAbs).length e0] 25)).alloc (.cells #[.bool false, .slice none 0 0, .bool false, .slice none 0 0] 27)
  have p1 := (Pair.new (w.alloc (.cells #[.bool (decide (n < 0)), .slice A (natL n.natAbs).length c] 25)) 25 (.bool (decide (d < 0))) (.slice B (natL d.natAbs).length e0)).alloc (.cells #[.bool false, .slice none 0 0, .bool false, .slice none 0 0] 27)
  have p2 := Quad.new ((w.alloc (.cells #[.bool (decide (n < 0)), .slice A (natL n.natAbs).length c] 25)).alloc (.cells #[.bool (decide (d < 0)), .slice B (natL d.natAbs).length e0] 25)) (.bool false) (.slice none 0 0) (.bool false) (.slice none 0 0)
  simp only [World.size_alloc] at p1 p2
  have V_n := Hd (NV.of h_n b0 p0)
  have V_d := Hd (NV.of h_d b0 p1)
  have P_r0 := Hd p2
  have RW_n := Hd h_n
  have RW_d := Hd h_d
  have HBW := Hd b0
  clear b0 p0 p1 p2 h_n h_d
  go_enter Tryz.func194, Tryz.ntmps194
  obtain ⟨W, E⟩ : ∃ W, W = (((w.alloc (.cells #[.bool (decide (n < 0)), .slice A (natL n.natAbs).length c] 25)).alloc (.cells #[.bool (decide (d < 0)), .slice B (natL d.natAbs).length e0] 25)).alloc (.cells #[.bool false, .slice none 0 0, .bool false, .slice none 0 0] 27)) := ⟨_, rfl⟩
  go_upto_region 1 with fail
  rw [← E] at V_n V_d P_r0 HBW ⊢
  clear E
  have hsz := P_r0.out.blk.lt
  have O_n0 := Hd (OW_n.out.below HBW.out)
  have O_d0 := Hd (OW_d.out.below HBW.out)
  clear OW_n OW_d
  obtain ⟨l_n, a_n, b_n, -, -⟩ := V_n.out.pair.facts
  obtain ⟨l_d, a_d, b_d, -, -⟩ := V_d.out.pair.facts
  go_wp2_with fail
  refine (ecommon n d g A B c e0 W V_n.out.raw V_d.out.raw (by omega) (by omega) HG.out).mono ?_
  rintro e x1 ⟨v, rfl, hI, hb⟩
  obtain ⟨A1, c1, rfl, r1⟩ := hI.raw
  have hIg := hI.base (Nat.zero_le _)
  have hszg := hb.size
  clear l_n a_n b_n l_d a_d b_d
  have V_n := Hd (V_n.out.below hb)
  have V_d := Hd (V_d.out.below hb)
  have P_r0 := Hd (P_r0.out.below hb)
  have O_n0 := Hd (O_n0.out.below hb)
  have O_d0 := Hd (O_d0.out.below hb)
  have HBW := Hd (belowTo HBW.out hb)
  have R_g := Hd r1
  clear hb r1
  have O_g := Hd hIg
  clear hI hIg
  go_upto_region 2 with fail
  have ha := ((Below.refl x1.heap.size x1).alloc (Nat.le_refl _) (.cells #[.bool (decide (g < 0)), .slice A1 (natL g.natAbs).length c1] 25))
  have p_g := (Pair.new x1 25 (.bool (decide (g < 0))) (.slice A1 (natL g.natAbs).length c1))
  obtain ⟨y2, E⟩ : ∃ W, W = (x1.alloc (.cells #[.bool (decide (g < 0)), .slice A1 (natL g.natAbs).length c1] 25)) := ⟨_, rfl⟩
  rw [← E] at ha p_g ⊢
  have V_g := Hd (NV.of R_g.out ha p_g)
  have V_n := Hd (V_n.out.below ha)
  have V_d := Hd (V_d.out.below ha)
  have P_r0 := Hd (P_r0.out.below ha)
  have O_n0 := Hd (O_n0.out.below ha)
  have O_d0 := Hd (O_d0.out.below ha)
  have O_g := Hd (O_g.out.below ha)
  have HBW := Hd (belowTo HBW.out ha)
  obtain ⟨g2, hg⟩ : ∃ g, g = x1.heap.size := ⟨_, rfl⟩
  rw [← hg] at V_g ⊢
  have hge2 : x1.heap.size ≤ g2 := by omega
  clear E ha hg p_g
  go_wp2_with fail
  obtain ⟨W0, hW⟩ : ∃ W0, W0 = y2 := ⟨_, rfl⟩
  rw [← hW] at HBW P_r0 O_n0 O_d0 O_g V_n V_d V_g  ⊢
  clear hW
  refine wp_region_free [.val (.agg #[.bool (decide (g < 0)), .slice A1 (natL g.natAbs).length c1]) [], .any false (fun u0 V => IntAt V u0 one) [], .val (.int .i64 0) [1], .val (.bool false) []] W0.heap.size W0 [] (fun _ _ => False) _ mixedOrders2 (Nat.le_refl _) (Below.refl _ _) (KeptV.refl _ _ _) rfl (by kernel_rfl) (by kernel_rfl) (by kernel_rfl) (by kernel_rfl) (by kernel_rfl) (by kernel_rfl) (by kernel_rfl) (by kernel_rfl) rfl (by simp [oldsF]) ?_ ?_ ?_ ?_
  · simp only [StableF, and_true]
    exact fun u0 V V' h k => h.keptNone k
  · simp only [OldsF]
  · simp (maxSteps := 4000000) [StepsF, DepF, freeAct, fill, pairs]
    repeat' (first | apply And.intro | (intro (u0 : Value)))
    all_goals first
    | (intro V hV hK
       obtain ⟨-, a_g, b_g, -, -⟩ := (V_g.out.below hV).pair.facts
       have r_g := Hd (V_g.out.below hV).raw
       clear hV hK
       go_simp
       first
       | exact Below.refl _ _
       | exact ⟨by first | rfl | decide | go_num, Below.refl _ _⟩
       | ((with_reducible refine (eof 1 one H1.out (by decide) (by decide) V).mono ?_); rintro e w' ⟨v, rfl, hv, hb⟩; exact ⟨hv.at_, hb⟩))
    | (intro V hV hK hu
       obtain ⟨A', c', rfl, hr⟩ := hu.form
       have r_g := Hd (V_g.out.below hV).raw
       have r' := Hd hr
       clear hV hK hu hr
       go_simp
       (with_reducible refine (ecmp g one 0 A1 A' c1 c' V r_g.out r'.out (by omega) (by omega) HK.out).mono ?_)
       rintro e w' ⟨rfl, hb⟩
       exact ⟨rfl, hb⟩)
  · simp [EndF, FactsF, freeAct, fill, pairs]
    intro u1 V hV hK _ _ _ _
    have V_n := Hd (V_n.out.below hV)
    have V_d := Hd (V_d.out.below hV)
    have V_g := Hd (V_g.out.below hV)
    have P_r0 := Hd (P_r0.out.below hV)
    have O_n0 := Hd (O_n0.out.below hV)
    have O_d0 := Hd (O_d0.out.below hV)
    have O_g := Hd (O_g.out.below hV)
    have HBW := Hd (belowTo HBW.out hV)
    clear hV hK
    obtain ⟨v3, hV0⟩ : ∃ Y, Y = V := ⟨_, rfl⟩
    rw [← hV0] at HBW P_r0 O_n0 O_d0 O_g V_n V_d V_g  ⊢
    clear hV0
    obtain ⟨rfl, rfl⟩ := HQN.out
    have hsn := HSN.out
    obtain ⟨l_d, a_d, b_d, -, -⟩ := V_d.out.pair.facts
    go_wp2_with fail
    refine (esign p sg B e0 v3 V_d.out.raw HSG.out).mono ?_
    rintro e x4 ⟨rfl, hb⟩
    clear l_d a_d b_d
    have V_n := Hd (V_n.out.below hb)
    have V_d := Hd (V_d.out.below hb)
    have V_g := Hd (V_g.out.below hb)
    have P_r0 := Hd (P_r0.out.below hb)
    have O_n0 := Hd (O_n0.out.below hb)
    have O_d0 := Hd (O_d0.out.below hb)
    have O_g := Hd (O_g.out.below hb)
    have HBW := Hd (belowTo HBW.out hb)
    clear hb
    go_upto_region 7 with fail
    clear hsn
    obtain ⟨l_n, a_n, b_n, -, -⟩ := V_n.out.pair.facts
    obtain ⟨l_d, a_d, b_d, -, -⟩ := V_d.out.pair.facts
    obtain ⟨l_r, c_r0, c_r1, c_r2, c_r3, f_r0, f_r1, f_r2, f_r3⟩ := P_r0.out.facts
    have HQ9 := Hd (P_r0.out.store (.bool (decide (q < 0))) (.slice A (natL q.natAbs).length c) (.bool (decide (p < 0))) (.slice B (natL p.natAbs).length e0))
    have HB9 := Hd (below4 HBW.out (show w.heap.size ≤ w.heap.size + 1 + 1 by omega) (.bool (decide (q < 0))) (.slice A (natL q.natAbs).length c) (.bool (decide (p < 0))) (.slice B (natL p.natAbs).length e0))
    have HF := Hd (show FracIn ((((x4.setCell ⟨w.heap.size + 1 + 1, 0, none⟩ (.bool (decide (q < 0)))).setCell ⟨w.heap.size + 1 + 1, 1, none⟩ (.slice A (natL q.natAbs).length c)).setCell ⟨w.heap.size + 1 + 1, 2, none⟩ (.bool (decide (p < 0)))).setCell ⟨w.heap.size + 1 + 1, 3, none⟩ (.slice B (natL p.natAbs).length e0)) 0 (.agg #[.bool (decide (q < 0)), .slice A (natL q.natAbs).length c, .bool (decide (p < 0)), .slice B (natL p.natAbs).length e0]) q p from ⟨_, _, _, _, rfl, O_n0.out.quad P_r0.out _ _ _ _, O_d0.out.quad P_r0.out _ _ _ _⟩)
    go_wp2_with fail
    obtain ⟨_, k0, k1, k2, k3, _⟩ := HQ9.out.facts
    exact bodyPost_ret (by simp [results, Tryz.results194, go_sem, k0, k1, k2, k3]) rfl ⟨.agg #[.bool (decide (q < 0)), .slice A (natL q.natAbs).length c, .bool (decide (p < 0)), .slice B (natL p.natAbs).length e0], rfl, by rw [HLN.out.1, HLN.out.2]; exact HF.out, HB9.out⟩

theorem elow_more_neg (n d : Int) (A B : Option Addr) (c e0 : Nat) (w : World) (h_n : Raw w A c (natL n.natAbs)) (h_d : Raw w B e0 (natL d.natAbs)) (o_n : IntOwn w 0 (.agg #[.bool (decide (n < 0)), .slice A (natL n.natAbs).length c]) n) (o_d : IntOwn w 0 (.agg #[.bool (decide (d < 0)), .slice B (natL d.natAbs).length e0]) d) (hn : lz n ≤ 400000000) (hd : lz d ≤ 400000000) (hd0 : d ≠ 0) (hs0 : d < 0) (hgc : 1 < gcdZ n d) :
    Calls Tryz.prog 194 #[.agg #[.bool (decide (n < 0)), .slice A (natL n.natAbs).length c], .agg #[.bool (decide (d < 0)), .slice B (natL d.natAbs).length e0]] w (RetFracIn w (lowN n d) (lowD n d)) := by
  obtain ⟨g, hg⟩ : ∃ k : Int, k = gcdZ n d := ⟨_, rfl⟩
  obtain ⟨one, hone⟩ : ∃ k : Int, k = 1 := ⟨_, rfl⟩
  obtain ⟨q, hq⟩ : ∃ k : Int, k = n.tdiv g := ⟨_, rfl⟩
  obtain ⟨r, hr⟩ : ∃ k : Int, k = n.tmod g := ⟨_, rfl⟩
  obtain ⟨p, hp⟩ : ∃ k : Int, k = d.tdiv g := ⟨_, rfl⟩
  obtain ⟨s, hs⟩ : ∃ k : Int, k = d.tmod g := ⟨_, rfl⟩
  obtain ⟨q', hq'⟩ : ∃ k : Int, k = -q := ⟨_, rfl⟩
  obtain ⟨p', hp'⟩ : ∃ k : Int, k = -p := ⟨_, rfl⟩
  have hgp := gcdZ_pos (n := n) hd0
  have hgl := gcdZ_lz (n := n) hd0
  rw [← hg] at hgp hgl hgc
  have hql : lz q ≤ lz n := by rw [hq]; exact tdiv_lz n g
  have hpl : lz p ≤ lz d := by rw [hp]; exact tdiv_lz d g
  have hps : p.sign = d.sign := by rw [hp, hg]; exact tdiv_sign hd0
  have hol : lz one ≤ 2 := by rw [hone]; decide
  obtain ⟨sg, hsg⟩ : ∃ k : Int, k = p.sign := ⟨_, rfl⟩
  have HSG := Hd hsg
  have HSN := Hd (show decide (sg < 0) = true from by
    rw [hsg, hps]
    exact decide_eq_true (by rw [Int.sign_eq_neg_one_of_neg hs0]; decide))
  have HG := Hd (show g = ((Nat.gcd n.natAbs d.natAbs : Nat) : Int) from hg)
  have H1 := Hd hone
  have HG0 := Hd (show g ≠ 0 from by omega)
  have HQ := Hd (And.intro hq hr)
  have HP := Hd (And.intro hp hs)
  have HN1 := Hd hq'
  have HN2 := Hd hp'
  have HK := Hd (show (1 : Int) = cmpz g one from by rw [hone]; exact (cmpz_gt (by omega)).symm)
  have HLN := Hd (show lowN n d = q' ∧ lowD n d = p' from by
    unfold lowN lowD
    rw [if_pos hs0, if_pos hs0, ← hg, ← hq, ← hp, hq', hp']
    exact ⟨rfl, rfl⟩)
  have OW_n := Hd o_n
  have OW_d := Hd o_d
  clear o_n o_d
  clear hgc hg hone hq hr hp hs hq' hp' hs0 hsg hps hd0
  have b0 := ((((Below.refl w.heap.size w).alloc (Nat.le_refl _) (.cells #[.bool (decide (n < 0)), .slice A (natL n.natAbs).length c] 25)).alloc (by simp) (.cells #[.bool (decide (d < 0)), .slice B (natL d.natAbs).length e0] 25)).alloc (by simp; omega) (.cells #[.bool false, .slice none 0 0, .bool false, .slice none 0 0] 27))
  have p0 := ((Pair.new w 25 (.bool (decide (n < 0))) (.slice A (natL n.natAbs).length c)).alloc (.cells #[.bool (decide (d < 0)), .slice B (natL d.natAbs).length e0] 25)).alloc (.cells #[.bool false, .slice none 0 0, .bool false, .slice none 0 0] 27)
  have p1 := (Pair.new (w.alloc (.cells #[.bool (decide (n < 0)), .slice A (natL n.natAbs).length c] 25)) 25 (.bool (decide (d < 0))) (.slice B (natL d.natAbs).length e0)).alloc (.cells #[.bool false, .slice none 0 0, .bool false, .slice none 0 0] 27)
  have p2 := Quad.new ((w.alloc (.cells #[.bool (decide (n < 0)), .slice A (natL n.natAbs).length c] 25)).alloc (.cells #[.bool (decide (d < 0)), .slice B (natL d.natAbs).length e0] 25)) (.bool false) (.slice none 0 0) (.bool false) (.slice none 0 0)
  simp only [World.size_alloc] at p1 p2
  have V_n := Hd (NV.of h_n b0 p0)
  have V_d := Hd (NV.of h_d b0 p1)
  have P_r0 := Hd p2
  have RW_n := Hd h_n
  have RW_d := Hd h_d
  have HBW := Hd b0
  clear b0 p0 p1 p2 h_n h_d
  go_enter Tryz.func194, Tryz.ntmps194
  obtain ⟨W, E⟩ : ∃ W, W = (((w.alloc (.cells #[.bool (decide (n < 0)), .slice A (natL n.natAbs).length c] 25)).alloc (.cells #[.bool (decide (d < 0)), .slice B (natL d.natAbs).length e0] 25)).alloc (.cells #[.bool false, .slice none 0 0, .bool false, .slice none 0 0] 27)) := ⟨_, rfl⟩
  go_upto_region 1 with fail
  rw [← E] at V_n V_d P_r0 HBW ⊢
  clear E
  have hsz := P_r0.out.blk.lt
  have O_n0 := Hd (OW_n.out.below HBW.out)
  have O_d0 := Hd (OW_d.out.below HBW.out)
  clear OW_n OW_d
  obtain ⟨l_n, a_n, b_n, -, -⟩ := V_n.out.pair.facts
  obtain ⟨l_d, a_d, b_d, -, -⟩ := V_d.out.pair.facts
  go_wp2_with fail
  refine (ecommon n d g A B c e0 W V_n.out.raw V_d.out.raw (by omega) (by omega) HG.out).mono ?_
  rintro e x1 ⟨v, rfl, hI, hb⟩
  obtain ⟨A1, c1, rfl, r1⟩ := hI.raw
  have hIg := hI.base (Nat.zero_le _)
  have hszg := hb.size
  clear l_n a_n b_n l_d a_d b_d
  have V_n := Hd (V_n.out.below hb)
  have V_d := Hd (V_d.out.below hb)
  have P_r0 := Hd (P_r0.out.below hb)
  have O_n0 := Hd (O_n0.out.below hb)
  have O_d0 := Hd (O_d0.out.below hb)
  have HBW := Hd (belowTo HBW.out hb)
  have R_g := Hd r1
  clear hb r1
  have O_g := Hd hIg
  clear hI hIg
  go_upto_region 2 with fail
  have ha := ((Below.refl x1.heap.size x1).alloc (Nat.le_refl _) (.cells #[.bool (decide (g < 0)), .slice A1 (natL g.natAbs).length c1] 25))
  have p_g := (Pair.new x1 25 (.bool (decide (g < 0))) (.slice A1 (natL g.natAbs).length c1))
  obtain ⟨y2, E⟩ : ∃ W, W = (x1.alloc (.cells #[.bool (decide (g < 0)), .slice A1 (natL g.natAbs).length c1] 25)) := ⟨_, rfl⟩
  rw [← E] at ha p_g ⊢
  have V_g := Hd (NV.of R_g.out ha p_g)
  have V_n := Hd (V_n.out.below ha)
  have V_d := Hd (V_d.out.below ha)
  have P_r0 := Hd (P_r0.out.below ha)
  have O_n0 := Hd (O_n0.out.below ha)
  have O_d0 := Hd (O_d0.out.below ha)
  have O_g := Hd (O_g.out.below ha)
  have HBW := Hd (belowTo HBW.out ha)
  obtain ⟨g2, hg⟩ : ∃ g, g = x1.heap.size := ⟨_, rfl⟩
  rw [← hg] at V_g ⊢
  have hge2 : x1.heap.size ≤ g2 := by omega
  clear E ha hg p_g
  go_wp2_with fail
  obtain ⟨W0, hW⟩ : ∃ W0, W0 = y2 := ⟨_, rfl⟩
  rw [← hW] at HBW P_r0 O_n0 O_d0 O_g V_n V_d V_g  ⊢
  clear hW
  refine wp_region_free [.val (.agg #[.bool (decide (g < 0)), .slice A1 (natL g.natAbs).length c1]) [], .any false (fun u0 V => IntAt V u0 one) [], .val (.int .i64 1) [1], .val (.bool true) []] W0.heap.size W0 [] (fun _ _ => False) _ mixedOrders2 (Nat.le_refl _) (Below.refl _ _) (KeptV.refl _ _ _) rfl (by kernel_rfl) (by kernel_rfl) (by kernel_rfl) (by kernel_rfl) (by kernel_rfl) (by kernel_rfl) (by kernel_rfl) (by kernel_rfl) rfl (by simp [oldsF]) ?_ ?_ ?_ ?_
  · simp only [StableF, and_true]
    exact fun u0 V V' h k => h.keptNone k
  · simp only [OldsF]
  · simp (maxSteps := 4000000) [StepsF, DepF, freeAct, fill, pairs]
    repeat' (first | apply And.intro | (intro (u0 : Value)))
    all_goals first
    | (intro V hV hK
       obtain ⟨-, a_g, b_g, -, -⟩ := (V_g.out.below hV).pair.facts
       have r_g := Hd (V_g.out.below hV).raw
       clear hV hK
       go_simp
       first
       | exact Below.refl _ _
       | exact ⟨by first | rfl | decide | go_num, Below.refl _ _⟩
       | ((with_reducible refine (eof 1 one H1.out (by decide) (by decide) V).mono ?_); rintro e w' ⟨v, rfl, hv, hb⟩; exact ⟨hv.at_, hb⟩))
    | (intro V hV hK hu
       obtain ⟨A', c', rfl, hr⟩ := hu.form
       have r_g := Hd (V_g.out.below hV).raw
       have r' := Hd hr
       clear hV hK hu hr
       go_simp
       (with_reducible refine (ecmp g one 1 A1 A' c1 c' V r_g.out r'.out (by omega) (by omega) HK.out).mono ?_)
       rintro e w' ⟨rfl, hb⟩
       exact ⟨rfl, hb⟩)
  · simp [EndF, FactsF, freeAct, fill, pairs]
    intro u1 V hV hK _ _ _ _
    have V_n := Hd (V_n.out.below hV)
    have V_d := Hd (V_d.out.below hV)
    have V_g := Hd (V_g.out.below hV)
    have P_r0 := Hd (P_r0.out.below hV)
    have O_n0 := Hd (O_n0.out.below hV)
    have O_d0 := Hd (O_d0.out.below hV)
    have O_g := Hd (O_g.out.below hV)
    have HBW := Hd (belowTo HBW.out hV)
    clear hV hK
    obtain ⟨v3, hV0⟩ : ∃ Y, Y = V := ⟨_, rfl⟩
    rw [← hV0] at HBW P_r0 O_n0 O_d0 O_g V_n V_d V_g  ⊢
    clear hV0
    obtain ⟨l_n, a_n, b_n, -, -⟩ := V_n.out.pair.facts
    obtain ⟨l_g, a_g, b_g, -, -⟩ := V_g.out.pair.facts
    go_wp2_with fail
    refine (edivide n g q r A A1 c c1 v3 V_n.out.raw V_g.out.raw (by omega) (by omega) HG0.out HQ.out.1 HQ.out.2).mono ?_
    rintro e x4 ⟨v1, v2, rfl, hI, hb⟩
    obtain ⟨A2, c2, rfl, -⟩ := hI.one.raw
    obtain ⟨A3, c3, rfl, -⟩ := hI.two.raw
    clear l_n a_n b_n l_g a_g b_g
    have V_n := Hd (V_n.out.below hb)
    have V_d := Hd (V_d.out.below hb)
    have V_g := Hd (V_g.out.below hb)
    have P_r0 := Hd (P_r0.out.below hb)
    have O_n0 := Hd (O_n0.out.below hb)
    have O_d0 := Hd (O_d0.out.below hb)
    have O_g := Hd (O_g.out.below hb)
    have HBW := Hd (belowTo HBW.out hb)
    have O_n := Hd (hI.one.base (Nat.zero_le _))
    clear hb hI
    obtain ⟨l_s, a_s, b_s, f_s, g_s⟩ := V_n.out.pair.facts
    have M_n := V_n.out.pair.store (.bool (decide (q < 0))) (.slice A2 (natL q.natAbs).length c2)
    have M_d := V_d.out.pair.far (show w.heap.size + 1 ≠ w.heap.size by omega) (.bool (decide (q < 0))) (.slice A2 (natL q.natAbs).length c2)
    have M_g := V_g.out.pair.far (show g2 ≠ w.heap.size by omega) (.bool (decide (q < 0))) (.slice A2 (natL q.natAbs).length c2)
    have Q_O_d0 := O_d0.out.pairT V_n.out.pair (.bool (decide (q < 0))) (.slice A2 (natL q.natAbs).length c2)
    have Q_O_g := O_g.out.pairT V_n.out.pair (.bool (decide (q < 0))) (.slice A2 (natL q.natAbs).length c2)
    have Q_O_n := O_n.out.pairT V_n.out.pair (.bool (decide (q < 0))) (.slice A2 (natL q.natAbs).length c2)
    have F_P_r0 : Quad _ _ _ _ _ _ := ⟨P_r0.out.blk.far2 (show w.heap.size + 1 + 1 ≠ w.heap.size by omega) (.bool (decide (q < 0))) (.slice A2 (natL q.natAbs).length c2)⟩
    have HB9 := below2 HBW.out (show w.heap.size ≤ w.heap.size by omega) (.bool (decide (q < 0))) (.slice A2 (natL q.natAbs).length c2)
    have hgrow : x4.heap.size ≤ (((x4).setCell ⟨w.heap.size, 0, none⟩ (.bool (decide (q < 0)))).setCell ⟨w.heap.size, 1, none⟩ (.slice A2 (natL q.natAbs).length c2)).heap.size := by simp
    go_upto_region 4 with fail
    obtain ⟨y5, E⟩ : ∃ W, W = (((x4).setCell ⟨w.heap.size, 0, none⟩ (.bool (decide (q < 0)))).setCell ⟨w.heap.size, 1, none⟩ (.slice A2 (natL q.natAbs).length c2)) := ⟨_, rfl⟩
    rw [← E] at M_n M_d M_g Q_O_d0 Q_O_g Q_O_n F_P_r0 HB9 hgrow ⊢
    clear E l_s a_s b_s f_s g_s
    have HBW := Hd HB9
    have O_d0 := Hd Q_O_d0
    have O_g := Hd Q_O_g
    have O_n := Hd Q_O_n
    have V_n := Hd (show NV y5 (w.heap.size) q A2 c2 from ⟨M_n, O_n.out.rawAt⟩)
    have V_d := Hd (show NV y5 (w.heap.size + 1) d B e0 from ⟨M_d, O_d0.out.rawAt⟩)
    have V_g := Hd (show NV y5 (g2) g A1 c1 from ⟨M_g, O_g.out.rawAt⟩)
    have P_r0 := Hd F_P_r0
    clear HB9 M_n M_d M_g Q_O_d0 Q_O_g Q_O_n F_P_r0
    obtain ⟨l_d, a_d, b_d, -, -⟩ := V_d.out.pair.facts
    obtain ⟨l_g, a_g, b_g, -, -⟩ := V_g.out.pair.facts
    go_wp2_with fail
    refine (edivide d g p s B A1 e0 c1 y5 V_d.out.raw V_g.out.raw (by omega) (by omega) HG0.out HP.out.1 HP.out.2).mono ?_
    rintro e x6 ⟨v1, v2, rfl, hI, hb⟩
    obtain ⟨A4, c4, rfl, -⟩ := hI.one.raw
    obtain ⟨A5, c5, rfl, -⟩ := hI.two.raw
    clear l_d a_d b_d l_g a_g b_g
    have V_n := Hd (V_n.out.below hb)
    have V_d := Hd (V_d.out.below hb)
    have V_g := Hd (V_g.out.below hb)
    have P_r0 := Hd (P_r0.out.below hb)
    have O_d0 := Hd (O_d0.out.below hb)
    have O_g := Hd (O_g.out.below hb)
    have O_n := Hd (O_n.out.below hb)
    have HBW := Hd (belowTo HBW.out hb)
    have O_d := Hd (hI.one.base (Nat.zero_le _))
    clear hb hI
    obtain ⟨l_s, a_s, b_s, f_s, g_s⟩ := V_d.out.pair.facts
    have M_d := V_d.out.pair.store (.bool (decide (p < 0))) (.slice A4 (natL p.natAbs).length c4)
    have M_n := V_n.out.pair.far (show w.heap.size ≠ w.heap.size + 1 by omega) (.bool (decide (p < 0))) (.slice A4 (natL p.natAbs).length c4)
    have Q_O_d := O_d.out.pairT V_d.out.pair (.bool (decide (p < 0))) (.slice A4 (natL p.natAbs).length c4)
    have Q_O_n := O_n.out.pairT V_d.out.pair (.bool (decide (p < 0))) (.slice A4 (natL p.natAbs).length c4)
    have F_P_r0 : Quad _ _ _ _ _ _ := ⟨P_r0.out.blk.far2 (show w.heap.size + 1 + 1 ≠ w.heap.size + 1 by omega) (.bool (decide (p < 0))) (.slice A4 (natL p.natAbs).length c4)⟩
    have HB9 := below2 HBW.out (show w.heap.size ≤ w.heap.size + 1 by omega) (.bool (decide (p < 0))) (.slice A4 (natL p.natAbs).length c4)
    have hgrow : x6.heap.size ≤ (((x6).setCell ⟨w.heap.size + 1, 0, none⟩ (.bool (decide (p < 0)))).setCell ⟨w.heap.size + 1, 1, none⟩ (.slice A4 (natL p.natAbs).length c4)).heap.size := by simp
    go_upto_region 5 with fail
    obtain ⟨y7, E⟩ : ∃ W, W = (((x6).setCell ⟨w.heap.size + 1, 0, none⟩ (.bool (decide (p < 0)))).setCell ⟨w.heap.size + 1, 1, none⟩ (.slice A4 (natL p.natAbs).length c4)) := ⟨_, rfl⟩
    rw [← E] at M_d M_n Q_O_d Q_O_n F_P_r0 HB9 hgrow ⊢
    clear E l_s a_s b_s f_s g_s
    have HBW := Hd HB9
    have O_d := Hd Q_O_d
    have O_n := Hd Q_O_n
    have V_d := Hd (show NV y7 (w.heap.size + 1) p A4 c4 from ⟨M_d, O_d.out.rawAt⟩)
    have V_n := Hd (show NV y7 (w.heap.size) q A2 c2 from ⟨M_n, O_n.out.rawAt⟩)
    have P_r0 := Hd F_P_r0
    clear HB9 M_d M_n Q_O_d Q_O_n F_P_r0
    clear V_g
    have hsn := HSN.out
    obtain ⟨l_d, a_d, b_d, -, -⟩ := V_d.out.pair.facts
    go_wp2_with fail
    refine (esign p sg A4 c4 y7 V_d.out.raw HSG.out).mono ?_
    rintro e x8 ⟨rfl, hb⟩
    clear l_d a_d b_d
    have V_n := Hd (V_n.out.below hb)
    have V_d := Hd (V_d.out.below hb)
    have P_r0 := Hd (P_r0.out.below hb)
    have O_n := Hd (O_n.out.below hb)
    have O_d := Hd (O_d.out.below hb)
    have HBW := Hd (belowTo HBW.out hb)
    clear hb
    go_upto_region 6 with fail
    clear hsn
    go_wp2_with fail
    have hszz := P_r0.out.blk.lt
    refine wp_region_free [.val (.agg #[.bool (decide (q < 0)), .slice A2 (natL q.natAbs).length c2]) [1004], .any false (fun u V => IntOwn V 0 u q') [], .val (.agg #[.bool (decide (p < 0)), .slice A4 (natL p.natAbs).length c4]) [1005], .any false (fun u V => IntOwn V 0 u p') [], .old (w.heap.size) 25 #[.bool (decide (q < 0)), .slice A2 (natL q.natAbs).length c2] 0 2 1 [], .old (w.heap.size + 1) 25 #[.bool (decide (p < 0)), .slice A4 (natL p.natAbs).length c4] 0 2 3 []] w.heap.size x8 [25] (fun _ _ => False) _ mixedOrders2 (by omega) (Below.refl _ _) (KeptV.refl _ _ _) rfl (by kernel_rfl) (by kernel_rfl) (by kernel_rfl) (by kernel_rfl) (by kernel_rfl) (by kernel_rfl) (by kernel_rfl) (by kernel_rfl) rfl (by simp [oldsF]) ?_ ?_ ?_ ?_
    · simp only [StableF, and_true]
      exact ⟨fun u V V' h k => h.kept k (by decide), fun u V V' h k => h.kept k (by decide)⟩
    · simp only [OldsF, and_true]
      exact ⟨⟨by omega, by omega, V_n.out.pair.blk, by simp⟩, by omega, by omega, V_d.out.pair.blk, by simp⟩
    · simp (maxSteps := 4000000) [StepsF, DepF, freeAct, fill, pairs]
      repeat' (first | apply And.intro | (intro (u : Value)) | (intro (u : Nat)))
      all_goals try exact ⟨_, _, _, rfl, rfl, rfl, rfl, intInfo⟩
      all_goals first
      | (intro V hV hK hp
         obtain ⟨-, a_p, b_p, -, -⟩ := (Pair.mk hp).facts
         clear hV hK hp
         go_simp
         exact Below.refl _ _)
      | (intro V hV hK
         have rn := Hd ((O_n.out.kept hK (by decide)).rawAt)
         have rd := Hd ((O_d.out.kept hK (by decide)).rawAt)
         clear hV hK
         go_simp
         first
         | ((with_reducible refine (eturned q q' A2 c2 V rn.out (by omega) HN1.out).mono ?_); rintro e w' ⟨v, rfl, hv, hb⟩; exact ⟨hv.base (Nat.zero_le _), hb⟩)
         | ((with_reducible refine (eturned p p' A4 c4 V rd.out (by omega) HN2.out).mono ?_); rintro e w' ⟨v, rfl, hv, hb⟩; exact ⟨hv.base (Nat.zero_le _), hb⟩))
      | exact fun _ _ _ (h : IntOwn _ _ _ _) => h.cells
    · simp [EndF, FactsF, freeAct, fill, pairs]
      intro u1 u2 V hV hK h1 h2 p1 p2 _ _ _
      obtain ⟨A6, c6, rfl, r6⟩ := h1.raw
      obtain ⟨A7, c7, rfl, r7⟩ := h2.raw
      simp [setAll, Value.cells] at p1 p2
      have V_n := Hd (show NV V (w.heap.size) q' A6 c6 from ⟨⟨p1⟩, r6⟩)
      have V_d := Hd (show NV V (w.heap.size + 1) p' A7 c7 from ⟨⟨p2⟩, r7⟩)
      have HBW := Hd (HBW.out.trans hV)
      have P_r0 := Hd (show Quad V _ _ _ _ _ from ⟨hK.blk P_r0.out.blk (by decide)⟩)
      have O_n9 := Hd h1
      have O_d9 := Hd h2
      clear hV hK h1 h2 p1 p2 r6 r7
      obtain ⟨l_n, a_n, b_n, -, -⟩ := V_n.out.pair.facts
      obtain ⟨l_d, a_d, b_d, -, -⟩ := V_d.out.pair.facts
      obtain ⟨l_r, c_r0, c_r1, c_r2, c_r3, f_r0, f_r1, f_r2, f_r3⟩ := P_r0.out.facts
      have HQ9 := Hd (P_r0.out.store (.bool (decide (q' < 0))) (.slice A6 (natL q'.natAbs).length c6) (.bool (decide (p' < 0))) (.slice A7 (natL p'.natAbs).length c7))
      have HB9 := Hd (below4 HBW.out (show w.heap.size ≤ w.heap.size + 1 + 1 by omega) (.bool (decide (q' < 0))) (.slice A6 (natL q'.natAbs).length c6) (.bool (decide (p' < 0))) (.slice A7 (natL p'.natAbs).length c7))
      have HF := Hd (show FracIn ((((V.setCell ⟨w.heap.size + 1 + 1, 0, none⟩ (.bool (decide (q' < 0)))).setCell ⟨w.heap.size + 1 + 1, 1, none⟩ (.slice A6 (natL q'.natAbs).length c6)).setCell ⟨w.heap.size + 1 + 1, 2, none⟩ (.bool (decide (p' < 0)))).setCell ⟨w.heap.size + 1 + 1, 3, none⟩ (.slice A7 (natL p'.natAbs).length c7)) 0 (.agg #[.bool (decide (q' < 0)), .slice A6 (natL q'.natAbs).length c6, .bool (decide (p' < 0)), .slice A7 (natL p'.natAbs).length c7]) q' p' from ⟨_, _, _, _, rfl, O_n9.out.quad P_r0.out _ _ _ _, O_d9.out.quad P_r0.out _ _ _ _⟩)
      go_wp2_with fail
      obtain ⟨_, k0, k1, k2, k3, _⟩ := HQ9.out.facts
      exact bodyPost_ret (by simp [results, Tryz.results194, go_sem, k0, k1, k2, k3]) rfl ⟨.agg #[.bool (decide (q' < 0)), .slice A6 (natL q'.natAbs).length c6, .bool (decide (p' < 0)), .slice A7 (natL p'.natAbs).length c7], rfl, by rw [HLN.out.1, HLN.out.2]; exact HF.out, HB9.out⟩

theorem elow_more_pos (n d : Int) (A B : Option Addr) (c e0 : Nat) (w : World) (h_n : Raw w A c (natL n.natAbs)) (h_d : Raw w B e0 (natL d.natAbs)) (o_n : IntOwn w 0 (.agg #[.bool (decide (n < 0)), .slice A (natL n.natAbs).length c]) n) (o_d : IntOwn w 0 (.agg #[.bool (decide (d < 0)), .slice B (natL d.natAbs).length e0]) d) (hn : lz n ≤ 400000000) (hd : lz d ≤ 400000000) (hd0 : d ≠ 0) (hs0 : ¬ d < 0) (hgc : 1 < gcdZ n d) :
    Calls Tryz.prog 194 #[.agg #[.bool (decide (n < 0)), .slice A (natL n.natAbs).length c], .agg #[.bool (decide (d < 0)), .slice B (natL d.natAbs).length e0]] w (RetFracIn w (lowN n d) (lowD n d)) := by
  obtain ⟨g, hg⟩ : ∃ k : Int, k = gcdZ n d := ⟨_, rfl⟩
  obtain ⟨one, hone⟩ : ∃ k : Int, k = 1 := ⟨_, rfl⟩
  obtain ⟨q, hq⟩ : ∃ k : Int, k = n.tdiv g := ⟨_, rfl⟩
  obtain ⟨r, hr⟩ : ∃ k : Int, k = n.tmod g := ⟨_, rfl⟩
  obtain ⟨p, hp⟩ : ∃ k : Int, k = d.tdiv g := ⟨_, rfl⟩
  obtain ⟨s, hs⟩ : ∃ k : Int, k = d.tmod g := ⟨_, rfl⟩
  obtain ⟨q', hq'⟩ : ∃ k : Int, k = -q := ⟨_, rfl⟩
  obtain ⟨p', hp'⟩ : ∃ k : Int, k = -p := ⟨_, rfl⟩
  have hgp := gcdZ_pos (n := n) hd0
  have hgl := gcdZ_lz (n := n) hd0
  rw [← hg] at hgp hgl hgc
  have hql : lz q ≤ lz n := by rw [hq]; exact tdiv_lz n g
  have hpl : lz p ≤ lz d := by rw [hp]; exact tdiv_lz d g
  have hps : p.sign = d.sign := by rw [hp, hg]; exact tdiv_sign hd0
  have hol : lz one ≤ 2 := by rw [hone]; decide
  obtain ⟨sg, hsg⟩ : ∃ k : Int, k = p.sign := ⟨_, rfl⟩
  have HSG := Hd hsg
  have HSN := Hd (show decide (sg < 0) = false from by
    rw [hsg, hps]
    exact decide_eq_false (by have := sign_cases d; omega))
  have HG := Hd (show g = ((Nat.gcd n.natAbs d.natAbs : Nat) : Int) from hg)
  have H1 := Hd hone
  have HG0 := Hd (show g ≠ 0 from by omega)
  have HQ := Hd (And.intro hq hr)
  have HP := Hd (And.intro hp hs)
  have HN1 := Hd hq'
  have HN2 := Hd hp'
  have HK := Hd (show (1 : Int) = cmpz g one from by rw [hone]; exact (cmpz_gt (by omega)).symm)
  have HLN := Hd (show lowN n d = q ∧ lowD n d = p from by
    unfold lowN lowD
    rw [if_neg hs0, if_neg hs0, ← hg, ← hq, ← hp]
    exact ⟨rfl, rfl⟩)
  have OW_n := Hd o_n
  have OW_d := Hd o_d
  clear o_n o_d
  clear hgc hg hone hq hr hp hs hq' hp' hs0 hsg hps hd0
  have b0 := ((((Below.refl w.heap.size w).alloc (Nat.le_refl _) (.cells #[.bool (decide (n < 0)), .slice A (natL n.natAbs).length c] 25)).alloc (by simp) (.cells #[.bool (decide (d < 0)), .slice B (natL d.natAbs).length e0] 25)).alloc (by simp; omega) (.cells #[.bool false, .slice none 0 0, .bool false, .slice none 0 0] 27))
  have p0 := ((Pair.new w 25 (.bool (decide (n < 0))) (.slice A (natL n.natAbs).length c)).alloc (.cells #[.bool (decide (d < 0)), .slice B (natL d.natAbs).length e0] 25)).alloc (.cells #[.bool false, .slice none 0 0, .bool false, .slice none 0 0] 27)
  have p1 := (Pair.new (w.alloc (.cells #[.bool (decide (n < 0)), .slice A (natL n.natAbs).length c] 25)) 25 (.bool (decide (d < 0))) (.slice B (natL d.natAbs).length e0)).alloc (.cells #[.bool false, .slice none 0 0, .bool false, .slice none 0 0] 27)
  have p2 := Quad.new ((w.alloc (.cells #[.bool (decide (n < 0)), .slice A (natL n.natAbs).length c] 25)).alloc (.cells #[.bool (decide (d < 0)), .slice B (natL d.natAbs).length e0] 25)) (.bool false) (.slice none 0 0) (.bool false) (.slice none 0 0)
  simp only [World.size_alloc] at p1 p2
  have V_n := Hd (NV.of h_n b0 p0)
  have V_d := Hd (NV.of h_d b0 p1)
  have P_r0 := Hd p2
  have RW_n := Hd h_n
  have RW_d := Hd h_d
  have HBW := Hd b0
  clear b0 p0 p1 p2 h_n h_d
  go_enter Tryz.func194, Tryz.ntmps194
  obtain ⟨W, E⟩ : ∃ W, W = (((w.alloc (.cells #[.bool (decide (n < 0)), .slice A (natL n.natAbs).length c] 25)).alloc (.cells #[.bool (decide (d < 0)), .slice B (natL d.natAbs).length e0] 25)).alloc (.cells #[.bool false, .slice none 0 0, .bool false, .slice none 0 0] 27)) := ⟨_, rfl⟩
  go_upto_region 1 with fail
  rw [← E] at V_n V_d P_r0 HBW ⊢
  clear E
  have hsz := P_r0.out.blk.lt
  have O_n0 := Hd (OW_n.out.below HBW.out)
  have O_d0 := Hd (OW_d.out.below HBW.out)
  clear OW_n OW_d
  obtain ⟨l_n, a_n, b_n, -, -⟩ := V_n.out.pair.facts
  obtain ⟨l_d, a_d, b_d, -, -⟩ := V_d.out.pair.facts
  go_wp2_with fail
  refine (ecommon n d g A B c e0 W V_n.out.raw V_d.out.raw (by omega) (by omega) HG.out).mono ?_
  rintro e x1 ⟨v, rfl, hI, hb⟩
  obtain ⟨A1, c1, rfl, r1⟩ := hI.raw
  have hIg := hI.base (Nat.zero_le _)
  have hszg := hb.size
  clear l_n a_n b_n l_d a_d b_d
  have V_n := Hd (V_n.out.below hb)
  have V_d := Hd (V_d.out.below hb)
  have P_r0 := Hd (P_r0.out.below hb)
  have O_n0 := Hd (O_n0.out.below hb)
  have O_d0 := Hd (O_d0.out.below hb)
  have HBW := Hd (belowTo HBW.out hb)
  have R_g := Hd r1
  clear hb r1
  have O_g := Hd hIg
  clear hI hIg
  go_upto_region 2 with fail
  have ha := ((Below.refl x1.heap.size x1).alloc (Nat.le_refl _) (.cells #[.bool (decide (g < 0)), .slice A1 (natL g.natAbs).length c1] 25))
  have p_g := (Pair.new x1 25 (.bool (decide (g < 0))) (.slice A1 (natL g.natAbs).length c1))
  obtain ⟨y2, E⟩ : ∃ W, W = (x1.alloc (.cells #[.bool (decide (g < 0)), .slice A1 (natL g.natAbs).length c1] 25)) := ⟨_, rfl⟩
  rw [← E] at ha p_g ⊢
  have V_g := Hd (NV.of R_g.out ha p_g)
  have V_n := Hd (V_n.out.below ha)
  have V_d := Hd (V_d.out.below ha)
  have P_r0 := Hd (P_r0.out.below ha)
  have O_n0 := Hd (O_n0.out.below ha)
  have O_d0 := Hd (O_d0.out.below ha)
  have O_g := Hd (O_g.out.below ha)
  have HBW := Hd (belowTo HBW.out ha)
  obtain ⟨g2, hg⟩ : ∃ g, g = x1.heap.size := ⟨_, rfl⟩
  rw [← hg] at V_g ⊢
  have hge2 : x1.heap.size ≤ g2 := by omega
  clear E ha hg p_g
  go_wp2_with fail
  obtain ⟨W0, hW⟩ : ∃ W0, W0 = y2 := ⟨_, rfl⟩
  rw [← hW] at HBW P_r0 O_n0 O_d0 O_g V_n V_d V_g  ⊢
  clear hW
  refine wp_region_free [.val (.agg #[.bool (decide (g < 0)), .slice A1 (natL g.natAbs).length c1]) [], .any false (fun u0 V => IntAt V u0 one) [], .val (.int .i64 1) [1], .val (.bool true) []] W0.heap.size W0 [] (fun _ _ => False) _ mixedOrders2 (Nat.le_refl _) (Below.refl _ _) (KeptV.refl _ _ _) rfl (by kernel_rfl) (by kernel_rfl) (by kernel_rfl) (by kernel_rfl) (by kernel_rfl) (by kernel_rfl) (by kernel_rfl) (by kernel_rfl) rfl (by simp [oldsF]) ?_ ?_ ?_ ?_
  · simp only [StableF, and_true]
    exact fun u0 V V' h k => h.keptNone k
  · simp only [OldsF]
  · simp (maxSteps := 4000000) [StepsF, DepF, freeAct, fill, pairs]
    repeat' (first | apply And.intro | (intro (u0 : Value)))
    all_goals first
    | (intro V hV hK
       obtain ⟨-, a_g, b_g, -, -⟩ := (V_g.out.below hV).pair.facts
       have r_g := Hd (V_g.out.below hV).raw
       clear hV hK
       go_simp
       first
       | exact Below.refl _ _
       | exact ⟨by first | rfl | decide | go_num, Below.refl _ _⟩
       | ((with_reducible refine (eof 1 one H1.out (by decide) (by decide) V).mono ?_); rintro e w' ⟨v, rfl, hv, hb⟩; exact ⟨hv.at_, hb⟩))
    | (intro V hV hK hu
       obtain ⟨A', c', rfl, hr⟩ := hu.form
       have r_g := Hd (V_g.out.below hV).raw
       have r' := Hd hr
       clear hV hK hu hr
       go_simp
       (with_reducible refine (ecmp g one 1 A1 A' c1 c' V r_g.out r'.out (by omega) (by omega) HK.out).mono ?_)
       rintro e w' ⟨rfl, hb⟩
       exact ⟨rfl, hb⟩)
  · simp [EndF, FactsF, freeAct, fill, pairs]
    intro u1 V hV hK _ _ _ _
    have V_n := Hd (V_n.out.below hV)
    have V_d := Hd (V_d.out.below hV)
    have V_g := Hd (V_g.out.below hV)
    have P_r0 := Hd (P_r0.out.below hV)
    have O_n0 := Hd (O_n0.out.below hV)
    have O_d0 := Hd (O_d0.out.below hV)
    have O_g := Hd (O_g.out.below hV)
    have HBW := Hd (belowTo HBW.out hV)
    clear hV hK
    obtain ⟨v3, hV0⟩ : ∃ Y, Y = V := ⟨_, rfl⟩
    rw [← hV0] at HBW P_r0 O_n0 O_d0 O_g V_n V_d V_g  ⊢
    clear hV0
    obtain ⟨l_n, a_n, b_n, -, -⟩ := V_n.out.pair.facts
    obtain ⟨l_g, a_g, b_g, -, -⟩ := V_g.out.pair.facts
    go_wp2_with fail
    refine (edivide n g q r A A1 c c1 v3 V_n.out.raw V_g.out.raw (by omega) (by omega) HG0.out HQ.out.1 HQ.out.2).mono ?_
    rintro e x4 ⟨v1, v2, rfl, hI, hb⟩
    obtain ⟨A2, c2, rfl, -⟩ := hI.one.raw
    obtain ⟨A3, c3, rfl, -⟩ := hI.two.raw
    clear l_n a_n b_n l_g a_g b_g
    have V_n := Hd (V_n.out.below hb)
    have V_d := Hd (V_d.out.below hb)
    have V_g := Hd (V_g.out.below hb)
    have P_r0 := Hd (P_r0.out.below hb)
    have O_n0 := Hd (O_n0.out.below hb)
    have O_d0 := Hd (O_d0.out.below hb)
    have O_g := Hd (O_g.out.below hb)
    have HBW := Hd (belowTo HBW.out hb)
    have O_n := Hd (hI.one.base (Nat.zero_le _))
    clear hb hI
    obtain ⟨l_s, a_s, b_s, f_s, g_s⟩ := V_n.out.pair.facts
    have M_n := V_n.out.pair.store (.bool (decide (q < 0))) (.slice A2 (natL q.natAbs).length c2)
    have M_d := V_d.out.pair.far (show w.heap.size + 1 ≠ w.heap.size by omega) (.bool (decide (q < 0))) (.slice A2 (natL q.natAbs).length c2)
    have M_g := V_g.out.pair.far (show g2 ≠ w.heap.size by omega) (.bool (decide (q < 0))) (.slice A2 (natL q.natAbs).length c2)
    have Q_O_d0 := O_d0.out.pairT V_n.out.pair (.bool (decide (q < 0))) (.slice A2 (natL q.natAbs).length c2)
    have Q_O_g := O_g.out.pairT V_n.out.pair (.bool (decide (q < 0))) (.slice A2 (natL q.natAbs).length c2)
    have Q_O_n := O_n.out.pairT V_n.out.pair (.bool (decide (q < 0))) (.slice A2 (natL q.natAbs).length c2)
    have F_P_r0 : Quad _ _ _ _ _ _ := ⟨P_r0.out.blk.far2 (show w.heap.size + 1 + 1 ≠ w.heap.size by omega) (.bool (decide (q < 0))) (.slice A2 (natL q.natAbs).length c2)⟩
    have HB9 := below2 HBW.out (show w.heap.size ≤ w.heap.size by omega) (.bool (decide (q < 0))) (.slice A2 (natL q.natAbs).length c2)
    have hgrow : x4.heap.size ≤ (((x4).setCell ⟨w.heap.size, 0, none⟩ (.bool (decide (q < 0)))).setCell ⟨w.heap.size, 1, none⟩ (.slice A2 (natL q.natAbs).length c2)).heap.size := by simp
    go_upto_region 4 with fail
    obtain ⟨y5, E⟩ : ∃ W, W = (((x4).setCell ⟨w.heap.size, 0, none⟩ (.bool (decide (q < 0)))).setCell ⟨w.heap.size, 1, none⟩ (.slice A2 (natL q.natAbs).length c2)) := ⟨_, rfl⟩
    rw [← E] at M_n M_d M_g Q_O_d0 Q_O_g Q_O_n F_P_r0 HB9 hgrow ⊢
    clear E l_s a_s b_s f_s g_s
    have HBW := Hd HB9
    have O_d0 := Hd Q_O_d0
    have O_g := Hd Q_O_g
    have O_n := Hd Q_O_n
    have V_n := Hd (show NV y5 (w.heap.size) q A2 c2 from ⟨M_n, O_n.out.rawAt⟩)
    have V_d := Hd (show NV y5 (w.heap.size + 1) d B e0 from ⟨M_d, O_d0.out.rawAt⟩)
    have V_g := Hd (show NV y5 (g2) g A1 c1 from ⟨M_g, O_g.out.rawAt⟩)
    have P_r0 := Hd F_P_r0
    clear HB9 M_n M_d M_g Q_O_d0 Q_O_g Q_O_n F_P_r0
    obtain ⟨l_d, a_d, b_d, -, -⟩ := V_d.out.pair.facts
    obtain ⟨l_g, a_g, b_g, -, -⟩ := V_g.out.pair.facts
    go_wp2_with fail
    refine (edivide d g p s B A1 e0 c1 y5 V_d.out.raw V_g.out.raw (by omega) (by omega) HG0.out HP.out.1 HP.out.2).mono ?_
    rintro e x6 ⟨v1, v2, rfl, hI, hb⟩
    obtain ⟨A4, c4, rfl, -⟩ := hI.one.raw
    obtain ⟨A5, c5, rfl, -⟩ := hI.two.raw
    clear l_d a_d b_d l_g a_g b_g
    have V_n := Hd (V_n.out.below hb)
    have V_d := Hd (V_d.out.below hb)
    have V_g := Hd (V_g.out.below hb)
    have P_r0 := Hd (P_r0.out.below hb)
    have O_d0 := Hd (O_d0.out.below hb)
    have O_g := Hd (O_g.out.below hb)
    have O_n := Hd (O_n.out.below hb)
    have HBW := Hd (belowTo HBW.out hb)
    have O_d := Hd (hI.one.base (Nat.zero_le _))
    clear hb hI
    obtain ⟨l_s, a_s, b_s, f_s, g_s⟩ := V_d.out.pair.facts
    have M_d := V_d.out.pair.store (.bool (decide (p < 0))) (.slice A4 (natL p.natAbs).length c4)
    have M_n := V_n.out.pair.far (show w.heap.size ≠ w.heap.size + 1 by omega) (.bool (decide (p < 0))) (.slice A4 (natL p.natAbs).length c4)
    have Q_O_d := O_d.out.pairT V_d.out.pair (.bool (decide (p < 0))) (.slice A4 (natL p.natAbs).length c4)
    have Q_O_n := O_n.out.pairT V_d.out.pair (.bool (decide (p < 0))) (.slice A4 (natL p.natAbs).length c4)
    have F_P_r0 : Quad _ _ _ _ _ _ := ⟨P_r0.out.blk.far2 (show w.heap.size + 1 + 1 ≠ w.heap.size + 1 by omega) (.bool (decide (p < 0))) (.slice A4 (natL p.natAbs).length c4)⟩
    have HB9 := below2 HBW.out (show w.heap.size ≤ w.heap.size + 1 by omega) (.bool (decide (p < 0))) (.slice A4 (natL p.natAbs).length c4)
    have hgrow : x6.heap.size ≤ (((x6).setCell ⟨w.heap.size + 1, 0, none⟩ (.bool (decide (p < 0)))).setCell ⟨w.heap.size + 1, 1, none⟩ (.slice A4 (natL p.natAbs).length c4)).heap.size := by simp
    go_upto_region 5 with fail
    obtain ⟨y7, E⟩ : ∃ W, W = (((x6).setCell ⟨w.heap.size + 1, 0, none⟩ (.bool (decide (p < 0)))).setCell ⟨w.heap.size + 1, 1, none⟩ (.slice A4 (natL p.natAbs).length c4)) := ⟨_, rfl⟩
    rw [← E] at M_d M_n Q_O_d Q_O_n F_P_r0 HB9 hgrow ⊢
    clear E l_s a_s b_s f_s g_s
    have HBW := Hd HB9
    have O_d := Hd Q_O_d
    have O_n := Hd Q_O_n
    have V_d := Hd (show NV y7 (w.heap.size + 1) p A4 c4 from ⟨M_d, O_d.out.rawAt⟩)
    have V_n := Hd (show NV y7 (w.heap.size) q A2 c2 from ⟨M_n, O_n.out.rawAt⟩)
    have P_r0 := Hd F_P_r0
    clear HB9 M_d M_n Q_O_d Q_O_n F_P_r0
    clear V_g
    have hsn := HSN.out
    obtain ⟨l_d, a_d, b_d, -, -⟩ := V_d.out.pair.facts
    go_wp2_with fail
    refine (esign p sg A4 c4 y7 V_d.out.raw HSG.out).mono ?_
    rintro e x8 ⟨rfl, hb⟩
    clear l_d a_d b_d
    have V_n := Hd (V_n.out.below hb)
    have V_d := Hd (V_d.out.below hb)
    have P_r0 := Hd (P_r0.out.below hb)
    have O_n := Hd (O_n.out.below hb)
    have O_d := Hd (O_d.out.below hb)
    have HBW := Hd (belowTo HBW.out hb)
    clear hb
    go_upto_region 7 with fail
    clear hsn
    obtain ⟨l_n, a_n, b_n, -, -⟩ := V_n.out.pair.facts
    obtain ⟨l_d, a_d, b_d, -, -⟩ := V_d.out.pair.facts
    obtain ⟨l_r, c_r0, c_r1, c_r2, c_r3, f_r0, f_r1, f_r2, f_r3⟩ := P_r0.out.facts
    have HQ9 := Hd (P_r0.out.store (.bool (decide (q < 0))) (.slice A2 (natL q.natAbs).length c2) (.bool (decide (p < 0))) (.slice A4 (natL p.natAbs).length c4))
    have HB9 := Hd (below4 HBW.out (show w.heap.size ≤ w.heap.size + 1 + 1 by omega) (.bool (decide (q < 0))) (.slice A2 (natL q.natAbs).length c2) (.bool (decide (p < 0))) (.slice A4 (natL p.natAbs).length c4))
    have HF := Hd (show FracIn ((((x8.setCell ⟨w.heap.size + 1 + 1, 0, none⟩ (.bool (decide (q < 0)))).setCell ⟨w.heap.size + 1 + 1, 1, none⟩ (.slice A2 (natL q.natAbs).length c2)).setCell ⟨w.heap.size + 1 + 1, 2, none⟩ (.bool (decide (p < 0)))).setCell ⟨w.heap.size + 1 + 1, 3, none⟩ (.slice A4 (natL p.natAbs).length c4)) 0 (.agg #[.bool (decide (q < 0)), .slice A2 (natL q.natAbs).length c2, .bool (decide (p < 0)), .slice A4 (natL p.natAbs).length c4]) q p from ⟨_, _, _, _, rfl, O_n.out.quad P_r0.out _ _ _ _, O_d.out.quad P_r0.out _ _ _ _⟩)
    go_wp2_with fail
    obtain ⟨_, k0, k1, k2, k3, _⟩ := HQ9.out.facts
    exact bodyPost_ret (by simp [results, Tryz.results194, go_sem, k0, k1, k2, k3]) rfl ⟨.agg #[.bool (decide (q < 0)), .slice A2 (natL q.natAbs).length c2, .bool (decide (p < 0)), .slice A4 (natL p.natAbs).length c4], rfl, by rw [HLN.out.1, HLN.out.2]; exact HF.out, HB9.out⟩

theorem elow (n d : Int) (A B : Option Addr) (c e0 : Nat) (w : World) (h : Raw w A c (natL n.natAbs)) (g : Raw w B e0 (natL d.natAbs)) (o_n : IntOwn w 0 (.agg #[.bool (decide (n < 0)), .slice A (natL n.natAbs).length c]) n) (o_d : IntOwn w 0 (.agg #[.bool (decide (d < 0)), .slice B (natL d.natAbs).length e0]) d) (hn : lz n ≤ 400000000) (hd : lz d ≤ 400000000) (hd0 : d ≠ 0) :
    Calls Tryz.prog 194 #[.agg #[.bool (decide (n < 0)), .slice A (natL n.natAbs).length c], .agg #[.bool (decide (d < 0)), .slice B (natL d.natAbs).length e0]] w (RetFracIn w (lowN n d) (lowD n d)) := by
  have hp := gcdZ_pos (n := n) hd0
  rcases (by omega : gcdZ n d = 1 ∨ 1 < gcdZ n d) with h1 | h1 <;> by_cases hs : d < 0
  · exact elow_one_neg n d A B c e0 w h g o_n o_d hn hd hd0 hs h1
  · exact elow_one_pos n d A B c e0 w h g o_n o_d hn hd hd0 hs h1
  · exact elow_more_neg n d A B c e0 w h g o_n o_d hn hd hd0 hs h1
  · exact elow_more_pos n d A B c e0 w h g o_n o_d hn hd hd0 hs h1

theorem rlow_neg (n d : Int) (A B : Option Addr) (c e0 : Nat) (w : World) (h_n : Raw w A c (natL n.natAbs)) (h_d : Raw w B e0 (natL d.natAbs)) (hn : lz n ≤ 30000) (hd : lz d ≤ 30000) (hd0 : d ≠ 0) (hs0 : d < 0) :
    Calls Tryz.prog 191 #[.agg #[.bool (decide (n < 0)), .slice A (natL n.natAbs).length c], .agg #[.bool (decide (d < 0)), .slice B (natL d.natAbs).length e0]] w (RetFracIn w (lowN n d) (lowD n d)) := by
  obtain ⟨g, hg⟩ : ∃ k : Int, k = gcdZ n d := ⟨_, rfl⟩
  obtain ⟨q, hq⟩ : ∃ k : Int, k = n.tdiv g := ⟨_, rfl⟩
  obtain ⟨r, hr⟩ : ∃ k : Int, k = n.tmod g := ⟨_, rfl⟩
  obtain ⟨p, hp⟩ : ∃ k : Int, k = d.tdiv g := ⟨_, rfl⟩
  obtain ⟨s, hs⟩ : ∃ k : Int, k = d.tmod g := ⟨_, rfl⟩
  obtain ⟨q', hq'⟩ : ∃ k : Int, k = -q := ⟨_, rfl⟩
  obtain ⟨p', hp'⟩ : ∃ k : Int, k = -p := ⟨_, rfl⟩
  have hgp := gcdZ_pos (n := n) hd0
  have hgl := gcdZ_lz (n := n) hd0
  rw [← hg] at hgp hgl
  have hql : lz q ≤ lz n := by rw [hq]; exact tdiv_lz n g
  have hpl : lz p ≤ lz d := by rw [hp]; exact tdiv_lz d g
  have hps : p.sign = d.sign := by rw [hp, hg]; exact tdiv_sign hd0
  obtain ⟨sg, hsg⟩ : ∃ k : Int, k = p.sign := ⟨_, rfl⟩
  have HSG := Hd hsg
  have HSN := Hd (show decide (sg < 0) = true from by
    rw [hsg, hps]
    exact decide_eq_true (by rw [Int.sign_eq_neg_one_of_neg hs0]; decide))
  have HG := Hd hg
  have HG0 := Hd (show g ≠ 0 from by omega)
  have HQ := Hd (And.intro hq hr)
  have HP := Hd (And.intro hp hs)
  have HN1 := Hd hq'
  have HN2 := Hd hp'
  have HLN := Hd (show lowN n d = q' ∧ lowD n d = p' from by
    unfold lowN lowD
    rw [if_pos hs0, if_pos hs0, ← hg, ← hq, ← hp, hq', hp']
    exact ⟨rfl, rfl⟩)
  clear hg hq hr hp hs hq' hp' hs0 hsg hps hd0
  have b0 := ((((Below.refl w.heap.size w).alloc (Nat.le_refl _) (.cells #[.bool (decide (n < 0)), .slice A (natL n.natAbs).length c] 25)).alloc (by simp) (.cells #[.bool (decide (d < 0)), .slice B (natL d.natAbs).length e0] 25)).alloc (by simp; omega) (.cells #[.bool false, .slice none 0 0, .bool false, .slice none 0 0] 27))
  have p0 := ((Pair.new w 25 (.bool (decide (n < 0))) (.slice A (natL n.natAbs).length c)).alloc (.cells #[.bool (decide (d < 0)), .slice B (natL d.natAbs).length e0] 25)).alloc (.cells #[.bool false, .slice none 0 0, .bool false, .slice none 0 0] 27)
  have p1 := (Pair.new (w.alloc (.cells #[.bool (decide (n < 0)), .slice A (natL n.natAbs).length c] 25)) 25 (.bool (decide (d < 0))) (.slice B (natL d.natAbs).length e0)).alloc (.cells #[.bool false, .slice none 0 0, .bool false, .slice none 0 0] 27)
  have p2 := Quad.new ((w.alloc (.cells #[.bool (decide (n < 0)), .slice A (natL n.natAbs).length c] 25)).alloc (.cells #[.bool (decide (d < 0)), .slice B (natL d.natAbs).length e0] 25)) (.bool false) (.slice none 0 0) (.bool false) (.slice none 0 0)
  simp only [World.size_alloc] at p1 p2
  have V_n := Hd (NV.of h_n b0 p0)
  have V_d := Hd (NV.of h_d b0 p1)
  have P_r0 := Hd p2
  have RW_n := Hd h_n
  have RW_d := Hd h_d
  have HBW := Hd b0
  clear b0 p0 p1 p2 h_n h_d
  go_enter Tryz.func191, Tryz.ntmps191
  obtain ⟨W, E⟩ : ∃ W, W = (((w.alloc (.cells #[.bool (decide (n < 0)), .slice A (natL n.natAbs).length c] 25)).alloc (.cells #[.bool (decide (d < 0)), .slice B (natL d.natAbs).length e0] 25)).alloc (.cells #[.bool false, .slice none 0 0, .bool false, .slice none 0 0] 27)) := ⟨_, rfl⟩
  go_upto_region 1 with fail
  rw [← E] at V_n V_d P_r0 HBW ⊢
  clear E
  have hsz := P_r0.out.blk.lt
  obtain ⟨l_n, a_n, b_n, -, -⟩ := V_n.out.pair.facts
  obtain ⟨l_d, a_d, b_d, -, -⟩ := V_d.out.pair.facts
  go_wp2_with fail
  refine (common02 n d A B c e0 W V_n.out.raw V_d.out.raw (by omega) (by omega)).mono ?_
  rintro e x1 ⟨v, rfl, hI, hb⟩
  rw [← HG.out] at hI
  obtain ⟨A1, c1, rfl, r1⟩ := hI.form
  clear hI
  clear l_n a_n b_n l_d a_d b_d
  have V_n := Hd (V_n.out.below hb)
  have V_d := Hd (V_d.out.below hb)
  have P_r0 := Hd (P_r0.out.below hb)
  have HBW := Hd (belowTo HBW.out hb)
  have R_g := Hd r1
  clear hb r1
  go_upto_region 2 with fail
  have ha := ((Below.refl x1.heap.size x1).alloc (Nat.le_refl _) (.cells #[.bool (decide (g < 0)), .slice A1 (natL g.natAbs).length c1] 25))
  have p_g := (Pair.new x1 25 (.bool (decide (g < 0))) (.slice A1 (natL g.natAbs).length c1))
  obtain ⟨y2, E⟩ : ∃ W, W = (x1.alloc (.cells #[.bool (decide (g < 0)), .slice A1 (natL g.natAbs).length c1] 25)) := ⟨_, rfl⟩
  rw [← E] at ha p_g ⊢
  have V_g := Hd (NV.of R_g.out ha p_g)
  have V_n := Hd (V_n.out.below ha)
  have V_d := Hd (V_d.out.below ha)
  have P_r0 := Hd (P_r0.out.below ha)
  have HBW := Hd (belowTo HBW.out ha)
  obtain ⟨g2, hg⟩ : ∃ g, g = x1.heap.size := ⟨_, rfl⟩
  rw [← hg] at V_g ⊢
  clear E ha hg p_g
  obtain ⟨l_n, a_n, b_n, -, -⟩ := V_n.out.pair.facts
  obtain ⟨l_g, a_g, b_g, -, -⟩ := V_g.out.pair.facts
  go_wp2_with fail
  refine (rdivide n g q r A A1 c c1 y2 V_n.out.raw V_g.out.raw (by omega) (by omega) HG0.out HQ.out.1 HQ.out.2).mono ?_
  rintro e x3 ⟨v1, v2, rfl, hI1, hI2, hb⟩
  obtain ⟨A2, c2, rfl, r2⟩ := hI1.raw
  obtain ⟨A3, c3, rfl, r3⟩ := hI2.raw
  clear l_n a_n b_n l_g a_g b_g
  have V_n := Hd (V_n.out.below hb)
  have V_d := Hd (V_d.out.below hb)
  have V_g := Hd (V_g.out.below hb)
  have P_r0 := Hd (P_r0.out.below hb)
  have HBW := Hd (belowTo HBW.out hb)
  have R_q := Hd r2
  have R_rm := Hd r3
  have O_q := Hd (hI1.base (Nat.zero_le _))
  clear hb hI1 hI2 r2 r3
  go_upto_region 3 with fail
  have ha := (((Below.refl x3.heap.size x3).alloc (Nat.le_refl _) (.cells #[.bool (decide (q < 0)), .slice A2 (natL q.natAbs).length c2] 25)).alloc (by simp) (.cells #[.bool (decide (r < 0)), .slice A3 (natL r.natAbs).length c3] 25))
  have p_q := ((Pair.new x3 25 (.bool (decide (q < 0))) (.slice A2 (natL q.natAbs).length c2)).alloc (.cells #[.bool (decide (r < 0)), .slice A3 (natL r.natAbs).length c3] 25))
  have p_rm := (Pair.new (x3.alloc (.cells #[.bool (decide (q < 0)), .slice A2 (natL q.natAbs).length c2] 25)) 25 (.bool (decide (r < 0))) (.slice A3 (natL r.natAbs).length c3))
  simp only [World.size_alloc] at p_rm
  obtain ⟨y4, E⟩ : ∃ W, W = ((x3.alloc (.cells #[.bool (decide (q < 0)), .slice A2 (natL q.natAbs).length c2] 25)).alloc (.cells #[.bool (decide (r < 0)), .slice A3 (natL r.natAbs).length c3] 25)) := ⟨_, rfl⟩
  rw [← E] at ha p_q p_rm ⊢
  have V_q := Hd (NV.of R_q.out ha p_q)
  have V_rm := Hd (NV.of R_rm.out ha p_rm)
  have V_n := Hd (V_n.out.below ha)
  have V_d := Hd (V_d.out.below ha)
  have V_g := Hd (V_g.out.below ha)
  have P_r0 := Hd (P_r0.out.below ha)
  have O_q := Hd (O_q.out.below ha)
  have HBW := Hd (belowTo HBW.out ha)
  obtain ⟨g4, hg⟩ : ∃ g, g = x3.heap.size := ⟨_, rfl⟩
  rw [← hg] at V_q V_rm ⊢
  clear E ha hg p_q p_rm
  clear V_rm
  obtain ⟨l_d, a_d, b_d, -, -⟩ := V_d.out.pair.facts
  obtain ⟨l_g, a_g, b_g, -, -⟩ := V_g.out.pair.facts
  go_wp2_with fail
  refine (rdivide d g p s B A1 e0 c1 y4 V_d.out.raw V_g.out.raw (by omega) (by omega) HG0.out HP.out.1 HP.out.2).mono ?_
  rintro e x5 ⟨v1, v2, rfl, hI1, hI2, hb⟩
  obtain ⟨A4, c4, rfl, r2⟩ := hI1.raw
  obtain ⟨A5, c5, rfl, r3⟩ := hI2.raw
  clear l_d a_d b_d l_g a_g b_g
  have V_n := Hd (V_n.out.below hb)
  have V_d := Hd (V_d.out.below hb)
  have V_g := Hd (V_g.out.below hb)
  have V_q := Hd (V_q.out.below hb)
  have P_r0 := Hd (P_r0.out.below hb)
  have O_q := Hd (O_q.out.below hb)
  have HBW := Hd (belowTo HBW.out hb)
  have R_p := Hd r2
  have R_sm := Hd r3
  have O_p := Hd (hI1.base (Nat.zero_le _))
  clear hb hI1 hI2 r2 r3
  go_upto_region 4 with fail
  have ha := (((Below.refl x5.heap.size x5).alloc (Nat.le_refl _) (.cells #[.bool (decide (p < 0)), .slice A4 (natL p.natAbs).length c4] 25)).alloc (by simp) (.cells #[.bool (decide (s < 0)), .slice A5 (natL s.natAbs).length c5] 25))
  have p_p := ((Pair.new x5 25 (.bool (decide (p < 0))) (.slice A4 (natL p.natAbs).length c4)).alloc (.cells #[.bool (decide (s < 0)), .slice A5 (natL s.natAbs).length c5] 25))
  have p_sm := (Pair.new (x5.alloc (.cells #[.bool (decide (p < 0)), .slice A4 (natL p.natAbs).length c4] 25)) 25 (.bool (decide (s < 0))) (.slice A5 (natL s.natAbs).length c5))
  simp only [World.size_alloc] at p_sm
  obtain ⟨y6, E⟩ : ∃ W, W = ((x5.alloc (.cells #[.bool (decide (p < 0)), .slice A4 (natL p.natAbs).length c4] 25)).alloc (.cells #[.bool (decide (s < 0)), .slice A5 (natL s.natAbs).length c5] 25)) := ⟨_, rfl⟩
  rw [← E] at ha p_p p_sm ⊢
  have V_p := Hd (NV.of R_p.out ha p_p)
  have V_sm := Hd (NV.of R_sm.out ha p_sm)
  have V_n := Hd (V_n.out.below ha)
  have V_d := Hd (V_d.out.below ha)
  have V_g := Hd (V_g.out.below ha)
  have V_q := Hd (V_q.out.below ha)
  have P_r0 := Hd (P_r0.out.below ha)
  have O_q := Hd (O_q.out.below ha)
  have O_p := Hd (O_p.out.below ha)
  have HBW := Hd (belowTo HBW.out ha)
  obtain ⟨g6, hg⟩ : ∃ g, g = x5.heap.size := ⟨_, rfl⟩
  rw [← hg] at V_p V_sm ⊢
  clear E ha hg p_p p_sm
  clear V_sm
  have hsn := HSN.out
  obtain ⟨l_p, a_p, b_p, -, -⟩ := V_p.out.pair.facts
  go_wp2_with fail
  refine (rsign p sg A4 c4 y6 V_p.out.raw HSG.out).mono ?_
  rintro e x7 ⟨rfl, hb⟩
  clear l_p a_p b_p
  have V_n := Hd (V_n.out.below hb)
  have V_d := Hd (V_d.out.below hb)
  have V_g := Hd (V_g.out.below hb)
  have V_q := Hd (V_q.out.below hb)
  have V_p := Hd (V_p.out.below hb)
  have P_r0 := Hd (P_r0.out.below hb)
  have O_q := Hd (O_q.out.below hb)
  have O_p := Hd (O_p.out.below hb)
  have HBW := Hd (belowTo HBW.out hb)
  clear hb
  go_upto_region 5 with fail
  clear hsn
  go_wp2_with fail
  refine wp_region_free [.val (.agg #[.bool (decide (q < 0)), .slice A2 (natL q.natAbs).length c2]) [], .any false (fun u V => IntOwn V 0 u q') [], .val (.agg #[.bool (decide (p < 0)), .slice A4 (natL p.natAbs).length c4]) [], .any false (fun u V => IntOwn V 0 u p') [], .any false (fun u V => FracIn V 0 u q' p') [1, 3], .old (w.heap.size + 1 + 1) 27 #[.bool false, .slice none 0 0, .bool false, .slice none 0 0] 0 4 4 []] (w.heap.size + 1 + 1) x7 [27] (fun _ _ => False) _ mixedOrders2 (by have := P_r0.out.blk.lt; omega) (Below.refl _ _) (KeptV.refl _ _ _) rfl (by kernel_rfl) (by kernel_rfl) (by kernel_rfl) (by kernel_rfl) (by kernel_rfl) (by kernel_rfl) (by kernel_rfl) (by kernel_rfl) rfl (by simp [oldsF]) ?_ ?_ ?_ ?_
  · simp only [StableF, and_true]
    exact ⟨fun u V V' h k => h.kept k (by decide), fun u V V' h k => h.kept k (by decide), fun u V V' h k => h.kept k (by decide)⟩
  · simp only [OldsF, and_true]
    exact ⟨Nat.le_refl _, P_r0.out.blk.lt, P_r0.out.blk, by simp⟩
  · simp (maxSteps := 4000000) [StepsF, DepF, freeAct, fill, pairs]
    repeat' (first | apply And.intro | (intro (u : Value)) | (intro (u : Nat)))
    all_goals try exact ⟨_, _, _, rfl, rfl, rfl, rfl, fracInfo⟩
    all_goals first
    | (intro V hV hK
       obtain ⟨-, a_q, b_q, -, -⟩ := (Pair.mk (hK.blk V_q.out.pair.blk (by decide))).facts
       obtain ⟨-, a_p, b_p, -, -⟩ := (Pair.mk (hK.blk V_p.out.pair.blk (by decide))).facts
       have rq := Hd (O_q.out.kept hK (by decide)).rawAt
       have rp := Hd (O_p.out.kept hK (by decide)).rawAt
       clear hV hK
       go_simp
       first
       | exact Below.refl _ _
       | ((with_reducible refine (rturned q q' A2 c2 V rq.out (by omega) HN1.out).mono ?_); rintro e w' ⟨v, rfl, hv, hb⟩; exact ⟨hv.base (Nat.zero_le _), hb⟩)
       | ((with_reducible refine (rturned p p' A4 c4 V rp.out (by omega) HN2.out).mono ?_); rintro e w' ⟨v, rfl, hv, hb⟩; exact ⟨hv.base (Nat.zero_le _), hb⟩))
    | (intro V hV hK h1 h2
       obtain ⟨A6, c6, rfl, -⟩ := h1.raw
       obtain ⟨A7, c7, rfl, -⟩ := h2.raw
       clear hV hK
       go_simp
       exact ⟨⟨_, _, _, _, rfl, h1, h2⟩, Below.refl _ _⟩)
    | exact fun _ _ _ (h : FracIn _ _ _ _ _) => h.cells
  · simp [EndF, FactsF, freeAct, fill, pairs]
    intro u1 u2 u3 V hV hK h1 h2 h3 bq _ _ _
    have HF := Hd h3
    obtain ⟨A6, c6, A7, c7, rfl, -⟩ := h3.form
    simp [setAll, Value.cells] at bq
    have k0 := bq.cell 0
    have k1 := bq.cell 1
    have k2 := bq.cell 2
    have k3 := bq.cell 3
    simp at k0 k1 k2 k3
    have HB9 := Hd (HBW.out.trans (hV.mono (by omega)))
    clear h1 h2 h3 hV hK bq
    go_wp2_with fail
    exact bodyPost_ret (by simp [results, Tryz.results191, go_sem, k0, k1, k2, k3]) rfl ⟨.agg #[.bool (decide (q' < 0)), .slice A6 (natL q'.natAbs).length c6, .bool (decide (p' < 0)), .slice A7 (natL p'.natAbs).length c7], rfl, by rw [HLN.out.1, HLN.out.2]; exact HF.out, HB9.out⟩

theorem rlow_pos (n d : Int) (A B : Option Addr) (c e0 : Nat) (w : World) (h_n : Raw w A c (natL n.natAbs)) (h_d : Raw w B e0 (natL d.natAbs)) (hn : lz n ≤ 30000) (hd : lz d ≤ 30000) (hd0 : d ≠ 0) (hs0 : ¬ d < 0) :
    Calls Tryz.prog 191 #[.agg #[.bool (decide (n < 0)), .slice A (natL n.natAbs).length c], .agg #[.bool (decide (d < 0)), .slice B (natL d.natAbs).length e0]] w (RetFracIn w (lowN n d) (lowD n d)) := by
  obtain ⟨g, hg⟩ : ∃ k : Int, k = gcdZ n d := ⟨_, rfl⟩
  obtain ⟨q, hq⟩ : ∃ k : Int, k = n.tdiv g := ⟨_, rfl⟩
  obtain ⟨r, hr⟩ : ∃ k : Int, k = n.tmod g := ⟨_, rfl⟩
  obtain ⟨p, hp⟩ : ∃ k : Int, k = d.tdiv g := ⟨_, rfl⟩
  obtain ⟨s, hs⟩ : ∃ k : Int, k = d.tmod g := ⟨_, rfl⟩
  obtain ⟨q', hq'⟩ : ∃ k : Int, k = -q := ⟨_, rfl⟩
  obtain ⟨p', hp'⟩ : ∃ k : Int, k = -p := ⟨_, rfl⟩
  have hgp := gcdZ_pos (n := n) hd0
  have hgl := gcdZ_lz (n := n) hd0
  rw [← hg] at hgp hgl
  have hql : lz q ≤ lz n := by rw [hq]; exact tdiv_lz n g
  have hpl : lz p ≤ lz d := by rw [hp]; exact tdiv_lz d g
  have hps : p.sign = d.sign := by rw [hp, hg]; exact tdiv_sign hd0
  obtain ⟨sg, hsg⟩ : ∃ k : Int, k = p.sign := ⟨_, rfl⟩
  have HSG := Hd hsg
  have HSN := Hd (show decide (sg < 0) = false from by
    rw [hsg, hps]
    exact decide_eq_false (by have := sign_cases d; omega))
  have HG := Hd hg
  have HG0 := Hd (show g ≠ 0 from by omega)
  have HQ := Hd (And.intro hq hr)
  have HP := Hd (And.intro hp hs)
  have HN1 := Hd hq'
  have HN2 := Hd hp'
  have HLN := Hd (show lowN n d = q ∧ lowD n d = p from by
    unfold lowN lowD
    rw [if_neg hs0, if_neg hs0, ← hg, ← hq, ← hp]
    exact ⟨rfl, rfl⟩)
  clear hg hq hr hp hs hq' hp' hs0 hsg hps hd0
  have b0 := ((((Below.refl w.heap.size w).alloc (Nat.le_refl _) (.cells #[.bool (decide (n < 0)), .slice A (natL n.natAbs).length c] 25)).alloc (by simp) (.cells #[.bool (decide (d < 0)), .slice B (natL d.natAbs).length e0] 25)).alloc (by simp; omega) (.cells #[.bool false, .slice none 0 0, .bool false, .slice none 0 0] 27))
  have p0 := ((Pair.new w 25 (.bool (decide (n < 0))) (.slice A (natL n.natAbs).length c)).alloc (.cells #[.bool (decide (d < 0)), .slice B (natL d.natAbs).length e0] 25)).alloc (.cells #[.bool false, .slice none 0 0, .bool false, .slice none 0 0] 27)
  have p1 := (Pair.new (w.alloc (.cells #[.bool (decide (n < 0)), .slice A (natL n.natAbs).length c] 25)) 25 (.bool (decide (d < 0))) (.slice B (natL d.natAbs).length e0)).alloc (.cells #[.bool false, .slice none 0 0, .bool false, .slice none 0 0] 27)
  have p2 := Quad.new ((w.alloc (.cells #[.bool (decide (n < 0)), .slice A (natL n.natAbs).length c] 25)).alloc (.cells #[.bool (decide (d < 0)), .slice B (natL d.natAbs).length e0] 25)) (.bool false) (.slice none 0 0) (.bool false) (.slice none 0 0)
  simp only [World.size_alloc] at p1 p2
  have V_n := Hd (NV.of h_n b0 p0)
  have V_d := Hd (NV.of h_d b0 p1)
  have P_r0 := Hd p2
  have RW_n := Hd h_n
  have RW_d := Hd h_d
  have HBW := Hd b0
  clear b0 p0 p1 p2 h_n h_d
  go_enter Tryz.func191, Tryz.ntmps191
  obtain ⟨W, E⟩ : ∃ W, W = (((w.alloc (.cells #[.bool (decide (n < 0)), .slice A (natL n.natAbs).length c] 25)).alloc (.cells #[.bool (decide (d < 0)), .slice B (natL d.natAbs).length e0] 25)).alloc (.cells #[.bool false, .slice none 0 0, .bool false, .slice none 0 0] 27)) := ⟨_, rfl⟩
  go_upto_region 1 with fail
  rw [← E] at V_n V_d P_r0 HBW ⊢
  clear E
  have hsz := P_r0.out.blk.lt
  obtain ⟨l_n, a_n, b_n, -, -⟩ := V_n.out.pair.facts
  obtain ⟨l_d, a_d, b_d, -, -⟩ := V_d.out.pair.facts
  go_wp2_with fail
  refine (common02 n d A B c e0 W V_n.out.raw V_d.out.raw (by omega) (by omega)).mono ?_
  rintro e x1 ⟨v, rfl, hI, hb⟩
  rw [← HG.out] at hI
  obtain ⟨A1, c1, rfl, r1⟩ := hI.form
  clear hI
  clear l_n a_n b_n l_d a_d b_d
  have V_n := Hd (V_n.out.below hb)
  have V_d := Hd (V_d.out.below hb)
  have P_r0 := Hd (P_r0.out.below hb)
  have HBW := Hd (belowTo HBW.out hb)
  have R_g := Hd r1
  clear hb r1
  go_upto_region 2 with fail
  have ha := ((Below.refl x1.heap.size x1).alloc (Nat.le_refl _) (.cells #[.bool (decide (g < 0)), .slice A1 (natL g.natAbs).length c1] 25))
  have p_g := (Pair.new x1 25 (.bool (decide (g < 0))) (.slice A1 (natL g.natAbs).length c1))
  obtain ⟨y2, E⟩ : ∃ W, W = (x1.alloc (.cells #[.bool (decide (g < 0)), .slice A1 (natL g.natAbs).length c1] 25)) := ⟨_, rfl⟩
  rw [← E] at ha p_g ⊢
  have V_g := Hd (NV.of R_g.out ha p_g)
  have V_n := Hd (V_n.out.below ha)
  have V_d := Hd (V_d.out.below ha)
  have P_r0 := Hd (P_r0.out.below ha)
  have HBW := Hd (belowTo HBW.out ha)
  obtain ⟨g2, hg⟩ : ∃ g, g = x1.heap.size := ⟨_, rfl⟩
  rw [← hg] at V_g ⊢
  clear E ha hg p_g
  obtain ⟨l_n, a_n, b_n, -, -⟩ := V_n.out.pair.facts
  obtain ⟨l_g, a_g, b_g, -, -⟩ := V_g.out.pair.facts
  go_wp2_with fail
  refine (rdivide n g q r A A1 c c1 y2 V_n.out.raw V_g.out.raw (by omega) (by omega) HG0.out HQ.out.1 HQ.out.2).mono ?_
  rintro e x3 ⟨v1, v2, rfl, hI1, hI2, hb⟩
  obtain ⟨A2, c2, rfl, r2⟩ := hI1.raw
  obtain ⟨A3, c3, rfl, r3⟩ := hI2.raw
  clear l_n a_n b_n l_g a_g b_g
  have V_n := Hd (V_n.out.below hb)
  have V_d := Hd (V_d.out.below hb)
  have V_g := Hd (V_g.out.below hb)
  have P_r0 := Hd (P_r0.out.below hb)
  have HBW := Hd (belowTo HBW.out hb)
  have R_q := Hd r2
  have R_rm := Hd r3
  have O_q := Hd (hI1.base (Nat.zero_le _))
  clear hb hI1 hI2 r2 r3
  go_upto_region 3 with fail
  have ha := (((Below.refl x3.heap.size x3).alloc (Nat.le_refl _) (.cells #[.bool (decide (q < 0)), .slice A2 (natL q.natAbs).length c2] 25)).alloc (by simp) (.cells #[.bool (decide (r < 0)), .slice A3 (natL r.natAbs).length c3] 25))
  have p_q := ((Pair.new x3 25 (.bool (decide (q < 0))) (.slice A2 (natL q.natAbs).length c2)).alloc (.cells #[.bool (decide (r < 0)), .slice A3 (natL r.natAbs).length c3] 25))
  have p_rm := (Pair.new (x3.alloc (.cells #[.bool (decide (q < 0)), .slice A2 (natL q.natAbs).length c2] 25)) 25 (.bool (decide (r < 0))) (.slice A3 (natL r.natAbs).length c3))
  simp only [World.size_alloc] at p_rm
  obtain ⟨y4, E⟩ : ∃ W, W = ((x3.alloc (.cells #[.bool (decide (q < 0)), .slice A2 (natL q.natAbs).length c2] 25)).alloc (.cells #[.bool (decide (r < 0)), .slice A3 (natL r.natAbs).length c3] 25)) := ⟨_, rfl⟩
  rw [← E] at ha p_q p_rm ⊢
  have V_q := Hd (NV.of R_q.out ha p_q)
  have V_rm := Hd (NV.of R_rm.out ha p_rm)
  have V_n := Hd (V_n.out.below ha)
  have V_d := Hd (V_d.out.below ha)
  have V_g := Hd (V_g.out.below ha)
  have P_r0 := Hd (P_r0.out.below ha)
  have O_q := Hd (O_q.out.below ha)
  have HBW := Hd (belowTo HBW.out ha)
  obtain ⟨g4, hg⟩ : ∃ g, g = x3.heap.size := ⟨_, rfl⟩
  rw [← hg] at V_q V_rm ⊢
  clear E ha hg p_q p_rm
  clear V_rm
  obtain ⟨l_d, a_d, b_d, -, -⟩ := V_d.out.pair.facts
  obtain ⟨l_g, a_g, b_g, -, -⟩ := V_g.out.pair.facts
  go_wp2_with fail
  refine (rdivide d g p s B A1 e0 c1 y4 V_d.out.raw V_g.out.raw (by omega) (by omega) HG0.out HP.out.1 HP.out.2).mono ?_
  rintro e x5 ⟨v1, v2, rfl, hI1, hI2, hb⟩
  obtain ⟨A4, c4, rfl, r2⟩ := hI1.raw
  obtain ⟨A5, c5, rfl, r3⟩ := hI2.raw
  clear l_d a_d b_d l_g a_g b_g
  have V_n := Hd (V_n.out.below hb)
  have V_d := Hd (V_d.out.below hb)
  have V_g := Hd (V_g.out.below hb)
  have V_q := Hd (V_q.out.below hb)
  have P_r0 := Hd (P_r0.out.below hb)
  have O_q := Hd (O_q.out.below hb)
  have HBW := Hd (belowTo HBW.out hb)
  have R_p := Hd r2
  have R_sm := Hd r3
  have O_p := Hd (hI1.base (Nat.zero_le _))
  clear hb hI1 hI2 r2 r3
  go_upto_region 4 with fail
  have ha := (((Below.refl x5.heap.size x5).alloc (Nat.le_refl _) (.cells #[.bool (decide (p < 0)), .slice A4 (natL p.natAbs).length c4] 25)).alloc (by simp) (.cells #[.bool (decide (s < 0)), .slice A5 (natL s.natAbs).length c5] 25))
  have p_p := ((Pair.new x5 25 (.bool (decide (p < 0))) (.slice A4 (natL p.natAbs).length c4)).alloc (.cells #[.bool (decide (s < 0)), .slice A5 (natL s.natAbs).length c5] 25))
  have p_sm := (Pair.new (x5.alloc (.cells #[.bool (decide (p < 0)), .slice A4 (natL p.natAbs).length c4] 25)) 25 (.bool (decide (s < 0))) (.slice A5 (natL s.natAbs).length c5))
  simp only [World.size_alloc] at p_sm
  obtain ⟨y6, E⟩ : ∃ W, W = ((x5.alloc (.cells #[.bool (decide (p < 0)), .slice A4 (natL p.natAbs).length c4] 25)).alloc (.cells #[.bool (decide (s < 0)), .slice A5 (natL s.natAbs).length c5] 25)) := ⟨_, rfl⟩
  rw [← E] at ha p_p p_sm ⊢
  have V_p := Hd (NV.of R_p.out ha p_p)
  have V_sm := Hd (NV.of R_sm.out ha p_sm)
  have V_n := Hd (V_n.out.below ha)
  have V_d := Hd (V_d.out.below ha)
  have V_g := Hd (V_g.out.below ha)
  have V_q := Hd (V_q.out.below ha)
  have P_r0 := Hd (P_r0.out.below ha)
  have O_q := Hd (O_q.out.below ha)
  have O_p := Hd (O_p.out.below ha)
  have HBW := Hd (belowTo HBW.out ha)
  obtain ⟨g6, hg⟩ : ∃ g, g = x5.heap.size := ⟨_, rfl⟩
  rw [← hg] at V_p V_sm ⊢
  clear E ha hg p_p p_sm
  clear V_sm
  have hsn := HSN.out
  obtain ⟨l_p, a_p, b_p, -, -⟩ := V_p.out.pair.facts
  go_wp2_with fail
  refine (rsign p sg A4 c4 y6 V_p.out.raw HSG.out).mono ?_
  rintro e x7 ⟨rfl, hb⟩
  clear l_p a_p b_p
  have V_n := Hd (V_n.out.below hb)
  have V_d := Hd (V_d.out.below hb)
  have V_g := Hd (V_g.out.below hb)
  have V_q := Hd (V_q.out.below hb)
  have V_p := Hd (V_p.out.below hb)
  have P_r0 := Hd (P_r0.out.below hb)
  have O_q := Hd (O_q.out.below hb)
  have O_p := Hd (O_p.out.below hb)
  have HBW := Hd (belowTo HBW.out hb)
  clear hb
  go_upto_region 6 with fail
  clear hsn
  obtain ⟨l_q, a_q, b_q, -, -⟩ := V_q.out.pair.facts
  obtain ⟨l_p, a_p, b_p, -, -⟩ := V_p.out.pair.facts
  obtain ⟨l_r, c_r0, c_r1, c_r2, c_r3, f_r0, f_r1, f_r2, f_r3⟩ := P_r0.out.facts
  have HQ9 := Hd (P_r0.out.store (.bool (decide (q < 0))) (.slice A2 (natL q.natAbs).length c2) (.bool (decide (p < 0))) (.slice A4 (natL p.natAbs).length c4))
  have HB9 := Hd (below4 HBW.out (show w.heap.size ≤ w.heap.size + 1 + 1 by omega) (.bool (decide (q < 0))) (.slice A2 (natL q.natAbs).length c2) (.bool (decide (p < 0))) (.slice A4 (natL p.natAbs).length c4))
  have HF := Hd (show FracIn ((((x7.setCell ⟨w.heap.size + 1 + 1, 0, none⟩ (.bool (decide (q < 0)))).setCell ⟨w.heap.size + 1 + 1, 1, none⟩ (.slice A2 (natL q.natAbs).length c2)).setCell ⟨w.heap.size + 1 + 1, 2, none⟩ (.bool (decide (p < 0)))).setCell ⟨w.heap.size + 1 + 1, 3, none⟩ (.slice A4 (natL p.natAbs).length c4)) 0 (.agg #[.bool (decide (q < 0)), .slice A2 (natL q.natAbs).length c2, .bool (decide (p < 0)), .slice A4 (natL p.natAbs).length c4]) q p from ⟨_, _, _, _, rfl, O_q.out.quad P_r0.out _ _ _ _, O_p.out.quad P_r0.out _ _ _ _⟩)
  go_wp2_with fail
  obtain ⟨_, k0, k1, k2, k3, _⟩ := HQ9.out.facts
  exact bodyPost_ret (by simp [results, Tryz.results191, go_sem, k0, k1, k2, k3]) rfl ⟨.agg #[.bool (decide (q < 0)), .slice A2 (natL q.natAbs).length c2, .bool (decide (p < 0)), .slice A4 (natL p.natAbs).length c4], rfl, by rw [HLN.out.1, HLN.out.2]; exact HF.out, HB9.out⟩

theorem rlow (n d : Int) (A B : Option Addr) (c e0 : Nat) (w : World) (h : Raw w A c (natL n.natAbs)) (g : Raw w B e0 (natL d.natAbs)) (hn : lz n ≤ 30000) (hd : lz d ≤ 30000) (hd0 : d ≠ 0) :
    Calls Tryz.prog 191 #[.agg #[.bool (decide (n < 0)), .slice A (natL n.natAbs).length c], .agg #[.bool (decide (d < 0)), .slice B (natL d.natAbs).length e0]] w (RetFracIn w (lowN n d) (lowD n d)) := by
  by_cases hs : d < 0
  · exact rlow_neg n d A B c e0 w h g hn hd hd0 hs
  · exact rlow_pos n d A B c e0 w h g hn hd hd0 hs
end Go.Proofs.YtipmkkobdbgphaaGreatDoor
