/- Several texts in one: Ops, Digits, RefDigits. -/
import Derived.Test.YtbdliabfdplohaaDoorBw14
import Derived.Test.YtbdliabfdplohaaDoorBw12
import Derived.Test.YtbdliabfdplohaaDoorBwHd
import Derived.Test.YtbdliabfdplohaaDoorBw06
import Derived.Test.YtbdliabfdplohaaDoorBw09
import Derived.Test.YtbdliabfdplohaaDoorBw01
import Derived.Lib.AppendIntMem
import Derived.Deep.LoopGhost
import Derived.Test.YtbdliabfdplohaaDoorBw07
import Derived.Test.YtbdliabfdplohaaDoorBw11
import Derived.Laws.IdiomStrings
import Derived.Lib.Itoa
set_option maxRecDepth 100000
set_option maxHeartbeats 8000000
/- Minus, Times, told; Add, Sub, Mul of package whole and of the references. (Written by wip/exact/genops.py.) -/
namespace Go.Proofs.YtbdliabfdplohaaDoor
open Go.RowKit

theorem ival_at (x : Int) : ival (decide (x < 0)) (natL x.natAbs) = x := by
  unfold ival
  rw [val_natL]
  by_cases h : x < 0
  · simp [h]; omega
  · simp [h]; omega
structure IntAt (w : World) (v : Value) (x : Int) : Prop where
  form : ∃ A c, v = .agg #[.bool (decide (x < 0)), .slice A (natL x.natAbs).length c] ∧ Raw w A c (natL x.natAbs)
theorem IntAt.below {w w' : World} {v : Value} {x : Int} (h : IntAt w v x) (hb : Below w.heap.size w w') : IntAt w' v x := by
  obtain ⟨A, c, h1, h2⟩ := h.form
  exact ⟨A, c, h1, h2.below hb⟩
theorem IntOwn.at_ {w : World} {base : Nat} {v : Value} {x : Int} (h : IntOwn w base v x) : IntAt w v x := ⟨h.raw⟩
theorem Raw.cut {w : World} {A : Option Addr} {c : Nat} {xs : List Nat} (h : Raw w A c xs) : Raw w A c (natL (val xs)) := by
  have hle := natL_val_le h.limbs
  have hr := h.reads.take (natL (val xs)).length
  rw [← natL_take h.limbs] at hr
  exact ⟨limbs_natL _, Nat.le_trans hle h.cap, h.most, hr⟩
theorem Raw.none_ (w : World) : Raw w none 0 [] := ⟨by simp [Limbs], Nat.le_refl _, by omega, ⟨by simp [cellsU], fun h => absurd h (by simp)⟩⟩
theorem IntAt.nought (w : World) : IntAt w (.agg #[.bool false, .slice none 0 0]) 0 := ⟨none, 0, rfl, Raw.none_ w⟩
def RetAt (w : World) (x : Int) (e : Ending) (w' : World) : Prop := ∃ v, e = .returned v ∧ IntAt w' v x ∧ Below w.heap.size w w'
def sv (neg : Bool) (A : Option Addr) (c : Nat) (xs : List Nat) : Value := if val xs = 0 then .agg #[.bool false, .slice none 0 0] else .agg #[.bool neg, .slice A (natL (val xs)).length c]
theorem sv_form (neg : Bool) (A : Option Addr) (c : Nat) (xs : List Nat) : ∃ b A' k c', sv neg A c xs = .agg #[.bool b, .slice A' k c'] := by
  unfold sv; split <;> exact ⟨_, _, _, _, rfl⟩
theorem IntAt.sv {w : World} {neg : Bool} {A : Option Addr} {c : Nat} {xs : List Nat} (h : Raw w A c xs) : IntAt w (sv neg A c xs) (ival neg xs) := by
  unfold Go.Proofs.YtbdliabfdplohaaDoor.sv
  by_cases h0 : val xs = 0
  · rw [if_pos h0]
    have : ival neg xs = 0 := by unfold ival; rw [h0]; cases neg <;> rfl
    rw [this]; exact IntAt.nought w
  · rw [if_neg h0]
    have ha : (ival neg xs).natAbs = val xs := by unfold ival; split <;> omega
    have hn : decide (ival neg xs < 0) = neg := by unfold ival; cases neg <;> simp <;> omega
    exact ⟨A, c, by rw [ha, hn], by rw [ha]; exact h.cut⟩
def RetInt2 (base : Nat) (w : World) (x : Int) (code : Int) (e : Ending) (w' : World) : Prop := ∃ v, e = .returned (.tuple #[v, .int .i64 code]) ∧ IntOwn w' base v x ∧ Below w.heap.size w w'
def toldV (z : Int) : Int := if (natL z.natAbs).length ≤ 2048 then z else 0
def toldE (z : Int) : Int := if (natL z.natAbs).length ≤ 2048 then 0 else 4

theorem exact_Times (n1 n2 : Bool) (A B : Option Addr) (c d : Nat) (xs ys : List Nat) (hlx : xs.length ≤ 536870912) (hly : ys.length ≤ 536870912) (w : World) (h : Raw w A c xs) (g : Raw w B d ys) :
    Calls Tryd.prog 48 #[.agg #[.bool n1, .slice A xs.length c], .agg #[.bool n2, .slice B ys.length d]] w (RetInt w.heap.size w (ival n1 xs * ival n2 ys)) := by
  refine exact_Times_own n1 n2 A B c d xs ys hlx hly _ ?_ w h g
  show _ = _
  unfold ival
  cases n1 <;> cases n2 <;> simp [Int.neg_mul, Int.mul_neg]

/- Digits of package exact: the decimal text of a whole number. -/

abbrev powTab (w : World) : Prop := Lib.TabIs Tryd.prog w "internal/strconv.uint64pow10" .u64 Lib.pow10Tab
theorem stringInfo : (Tryd.prog.info? 9).map (fun i => (i.zero, i.size, i.bytes)) = some (some (.string ⟨#[]⟩), 1, 16) := by kernel_rfl
def strs (cs : List Nat) : List Value := cs.map fun c => Value.string ⟨(Lib.decDigits c).toArray⟩
structure Dg (w wr : World) (n1 : Bool) (S : Value) (V v : Nat) (cs : List Nat) (pv : Value) (g cap : Nat) : Prop where
  low : Below w.heap.size w wr
  front : Front wr g cap (natL v)
  hg : w.heap.size + 1 ≤ g
  parts : wr.ownsRow (w.heap.size + 1) 9 1 pv cs.length (strs cs)
  px : Pair wr w.heap.size 24 (.bool n1) S
  all : chunks V = cs ++ chunks v
  big : v * 2 ^ (29 * cs.length) ≤ V
  few : cs.length ≤ 2000001
theorem Dg.count {w wr : World} {n1 : Bool} {S : Value} {V v L : Nat} {cs : List Nat} {pv : Value} {g cap : Nat} (h : Dg w wr n1 S V v cs pv g cap) (hv : 0 < v) (hV : (natL V).length ≤ L) : cs.length ≤ 2 * L := by
  have h1 : V < 2 ^ (32 * L) := by
    have := natL_length_le.1 hV
    rw [show 4294967296 = 2 ^ 32 by decide, ← Nat.pow_mul] at this
    exact this
  have h2 : 2 ^ (29 * cs.length) ≤ V := Nat.le_trans (Nat.le_mul_of_pos_left _ hv) h.big
  have h3 : 2 ^ (29 * cs.length) < 2 ^ (32 * L) := by omega
  have := (Nat.pow_lt_pow_iff_right (by omega)).1 h3
  omega
theorem big_next {v n V : Nat} (h : v * 2 ^ (29 * n) ≤ V) : v / 1000000000 * 2 ^ (29 * (n + 1)) ≤ V := by
  rw [Nat.mul_add, Nat.mul_one, Nat.pow_add]
  generalize 2 ^ (29 * n) = p at *
  have h1 : v / 1000000000 * 2 ^ 29 ≤ v := by
    have : (2 : Nat) ^ 29 ≤ 1000000000 := by decide
    calc v / 1000000000 * 2 ^ 29 ≤ v / 1000000000 * 1000000000 := Nat.mul_le_mul_left _ this
      _ ≤ v := Nat.div_mul_le_self _ _
  calc v / 1000000000 * (p * 2 ^ 29) = v / 1000000000 * 2 ^ 29 * p := by rw [Nat.mul_comm p, Nat.mul_assoc]
    _ ≤ v * p := Nat.mul_le_mul_right _ h1
    _ ≤ V := h

theorem digits_more (n1 : Bool) (A : Option Addr) (c : Nat) (xs : List Nat) (hne : xs ≠ []) (hcx : Canon xs) (hl : xs.length ≤ 1000000) (z : List UInt8) (HZ : Hid (z = if n1 then 45 :: Lib.decDigits (val xs) else Lib.decDigits (val xs))) (w : World) (h : Raw w A c xs) (htab : powTab w) :
    Calls Tryd.prog 18 #[.agg #[.bool n1, .slice A xs.length c]] w fun e w' => e = .returned (.string ⟨z.toArray⟩) ∧ Below w.heap.size w w' := by
  obtain ⟨i0, hi, hz0, hz1, hz2⟩ := info_parts stringInfo
  have px := Pair.new w 24 (.bool n1) (.slice A xs.length c)
  have b0 := (Below.refl w.heap.size w).alloc (Nat.le_refl _) (.cells #[.bool n1, .slice A xs.length c] 24)
  have rx := h.alloc (.cells #[.bool n1, .slice A xs.length c] 24)
  have HT := Hd (Lib.tabBelow_of_tabIs htab)
  obtain ⟨V, hV⟩ : ∃ V, V = val xs := ⟨_, rfl⟩
  have eV : natL V = xs := by rw [hV]; exact natL_val h.limbs hcx
  have hpV : 0 < V := by
    rcases Nat.eq_zero_or_pos V with h0 | h0
    · rw [h0, natL_zero] at eV; exact absurd eV.symm hne
    · exact h0
  have HX := Hd h.limbs
  rw [← hV] at HZ
  clear h htab hV
  go_enter Tryd.func18, Tryd.ntmps18
  obtain ⟨W, E⟩ : ∃ W, W = w.alloc (.cells #[.bool n1, .slice A xs.length c] 24) := ⟨_, rfl⟩
  have hsW : W.heap.size = w.heap.size + 1 := by rw [E]; simp
  have C1 := Hd (slices_Clone A c xs (by omega) W (by rw [E]; exact rx))
  go_wp2_with fail
  rw [← E] at px b0 ⊢
  clear E rx
  refine C1.out.mono ?_
  rintro e w1 ⟨v, rfl, hv, hb1⟩
  obtain ⟨g, cap, rfl, hg, hcap, hf⟩ := hv.front hne
  have H0 := Hd (show Dg w w1 n1 (.slice A xs.length c) V V [] (.slice none 0 0) g cap from
    ⟨belowTo b0 hb1, by rw [eV]; exact hf, by omega, World.ownsRow_nil _ _ _ _, px.below hb1, rfl, by simp, by simp⟩)
  have HV := Hd (show (natL V).length ≤ 1000000 by rw [eV]; exact hl)
  have HC := Hd hcap
  rw [← eV] at *
  clear px b0 hb1 hv hf hg C1 eV hsW hcap
  go_wp2_with fail
  go_loopg [3, 4] (V) (fun v p l wr => ∃ AP cP cs, p = .slice AP cs.length cP ∧ l = .slice (some ⟨g, 0, none⟩) (natL v).length cap ∧ Hid (Dg w wr n1 (.slice A (natL V).length c) V v cs (.slice AP cs.length cP) g cap))
  case atStart => exact ⟨none, 0, [], rfl, rfl, H0⟩
  case round =>
    clear H0
    obtain ⟨AP, cP, cs, rfl, rfl, HR⟩ := hrel
    rcases Nat.eq_zero_or_pos gk with h0 | h0
    · subst h0
      have hall := HR.out.all
      rw [chunks_nil, List.append_nil] at hall
      have hn0 : (natL 0).length = 0 := by simp [natL_zero]
      rw [hn0]
      have hcs : cs ≠ [] := fun e => by
        rw [e, chunks_cons (by omega)] at hall
        cases hall
      have hd : ((cs.length : Int) == 0) = false := by
        have : cs.length ≠ 0 := fun e => hcs (List.eq_nil_of_length_eq_zero e)
        simp; omega
      have HALL := Hd hall
      have HCS := Hd hcs
      clear hn0 hall hcs
      have hlt : ∀ c ∈ cs, c < 1000000000 := fun c hc => chunks_lt V c (by rw [HALL.out]; exact hc)
      have hcnt := HR.out.few
      have HLT := Hd hlt
      obtain ⟨l1, x0, x1, -, -⟩ := (HR.out.px.alloc (.cells #[.pointer none, .slice none 0 0] 59)).facts
      obtain ⟨pre, hpre⟩ : ∃ pre : List UInt8, pre = if n1 then [45] else [] := ⟨_, rfl⟩
      have HP := Hd (show z = pre ++ chunkText cs by
        rw [HZ.out, hpre, ← HALL.out, chunk_text V (by omega)]; cases n1 <;> simp)
      have HPL := Hd (show pre.length ≤ 1 by rw [hpre]; cases n1 <;> simp)
      have HLEN := Hd (show ∀ k, (pre ++ chunkText (cs.drop k)).length ≤ 20000000 from fun k => by
        have h1 := chunkText_length (cs.drop k) (fun c hc => hlt c (List.mem_of_mem_drop hc))
        have h2 := HPL.out
        have h3 : (cs.drop k).length ≤ cs.length := by simp
        rw [List.length_append]; omega)
      have HBf := Hd (Lib.fresh_isBuilder 59 5 wr)
      have HBw := Hd ((Below.refl wr.heap.size wr).alloc (Nat.le_refl _) (.cells #[.pointer none, .slice none 0 0] 59))
      have HRD := Hd (Reads.of_own HR.out.parts)
      have HLW := Hd HR.out.low
      clear hlt HZ HT HX HR
      cases n1
      case' false =>
        simp at hpre
        go_wp2_with fail
        have H2 := Hd (show Bld wr.heap.size wr.heap.size (Lib.byteCells (pre ++ chunkText (cs.drop cs.length))) (wr.alloc (.cells #[.pointer none, .slice none 0 0] 59)) ∧ Below wr.heap.size wr (wr.alloc (.cells #[.pointer none, .slice none 0 0] 59)) from ⟨by rw [hpre, List.drop_length]; exact HBf.out, HBw.out⟩)
        clear HBf HBw l1 x0 x1 hpre
        obtain ⟨wz, hwz⟩ : ∃ wz : World, wz = wr.alloc (.cells #[.pointer none, .slice none 0 0] 59) := ⟨_, rfl⟩
        rw [← hwz] at H2 ⊢
        clear hwz
      case' true =>
        have hbwx := HBf.out
        have C3 := Hd (write_byte wr.heap.size wr.heap.size [] 45 _ HBf.out (by simp) (by simp))
        go_wp2_with fail
        refine C3.out.mono ?_
        rintro e wz ⟨rfl, hwb, hbw⟩
        have H2 := Hd (show Bld wr.heap.size wr.heap.size (Lib.byteCells (pre ++ chunkText (cs.drop cs.length))) wz ∧ Below wr.heap.size wr wz from ⟨by rw [hpre, List.drop_length]; exact hwb, HBw.out.trans hbw⟩)
        clear HBf HBw l1 x0 x1 hpre hwb hbw C3 hbwx
        go_wp2_with fail
      all_goals
        obtain ⟨b, hb⟩ : ∃ b, b = wr.heap.size := ⟨_, rfl⟩
        rw [← hb] at H2 HRD ⊢
        obtain ⟨wq, hwq⟩ : ∃ wq : World, wq = wr := ⟨_, rfl⟩
        rw [← hwq] at H2 HRD HLW hb
        clear hwq
        have hlb : ∀ W', Below b wq W' → b ≤ W'.heap.size := fun W' h => by have := h.size; omega
        have HLB := Hd hlb
        have HLC := Hd (show ∀ W', Below b wq W' → Below w.heap.size w W' from fun W' h => belowTo HLW.out (by rw [← hb]; exact h))
        clear hb hlb HLW
        go_loopw [6] (fun s wl => ∃ k : Nat, ∃ i : Int, s = .int .i64 i ∧ i = (k : Int) - 1 ∧ k ≤ cs.length ∧ Hid (Bld b b (Lib.byteCells (pre ++ chunkText (cs.drop k))) wl ∧ Below b wq wl)) (fun s _ => (intOf s + 1).toNat)
        case atStart => exact ⟨cs.length, _, rfl, by first | rfl | omega, Nat.le_refl _, H2⟩
        case round =>
          clear H2
          obtain ⟨k, i, rfl, hik, hk, HB⟩ := hrel
          rcases Nat.eq_zero_or_pos k with h0 | h0
          · subst h0
            have hi0 : decide (0 ≤ i) = false := by simp; omega
            have hbb := HB.out.1
            rw [List.drop_zero, ← HP.out] at hbb
            have C4 := Hd (Tryd.Builder_String_any b b z wr hbb (HLB.out _ HB.out.2))
            clear hik hk
            go_wp2_with fail
            refine C4.out.mono ?_
            rintro e wf ⟨rfl, hbf⟩
            have HFB := Hd (HLC.out _ (HB.out.2.trans hbf))
            clear hbf hbb
            go_wp2_with fail
            go_ret
            exact ⟨rfl, HFB.out⟩
          · obtain ⟨m, rfl⟩ : ∃ m, k = m + 1 := ⟨k - 1, by omega⟩
            have him : i = (m : Int) := by omega
            subst him
            have hm : m < cs.length := by omega
            have hmi : (m : Int) < (cs.length : Int) := by omega
            have hm0 : (0 : Int) ≤ (m : Int) := by omega
            obtain ⟨ad, u, rfl, had, hu, hcell⟩ := (HRD.out.below HB.out.2).at_ hm
            have hu2 : u = .string ⟨(Lib.decDigits cs[m]).toArray⟩ := by
              have : (strs cs)[m]? = some (.string ⟨(Lib.decDigits cs[m]).toArray⟩) := by simp [strs, hm]
              rw [this] at hu
              exact (Option.some.inj hu).symm
            subst hu2
            obtain ⟨S, hS⟩ : ∃ S : ByteArray, S = ⟨(Lib.decDigits cs[m]).toArray⟩ := ⟨_, rfl⟩
            rw [← hS] at hcell
            have hS9 : S.size ≤ 9 := by rw [hS]; exact dec_nine_len (HLT.out _ (List.getElem_mem hm))
            have HS := Hd hS
            have HCELL := Hd (show ∀ W', Below b wq W' → W'.cell? (ad.add m) = some (.string S) from fun W' h => by
              obtain ⟨ad', u, e, -, h2, h3⟩ := (HRD.out.below h).at_ hm
              injection e with e
              subst e
              have : (strs cs)[m]? = some (.string ⟨(Lib.decDigits cs[m]).toArray⟩) := by simp [strs, hm]
              rw [this] at h2
              rw [h3, ← Option.some.inj h2, hS])
            clear hS hu hik hk h0
            by_cases hlast : m + 1 < cs.length
            · have hd : decide ((m : Int) < (cs.length : Int) - 1) = true := by simp; omega
              have C5 := Hd (write_string b b _ (ByteArray.extract ⟨#[48, 48, 48, 48, 48, 48, 48, 48, 48]⟩ S.size 9) wr HB.out.1 (by
                have := HLEN.out (m + 1)
                have h9 : (ByteArray.extract ⟨#[48, 48, 48, 48, 48, 48, 48, 48, 48]⟩ S.size 9).size ≤ 9 := by
                  rw [Lib.extract_eq]
                  show ((List.drop S.size _).take (9 - S.size)).toArray.size ≤ 9
                  rw [List.size_toArray]
                  exact Nat.le_trans (List.length_take_le _ _) (by omega)
                rw [Lib.byteCells_length]; omega) (HLB.out _ HB.out.2))
              have HM := Hd hlast
              clear hlast
              go_wp2_with fail
              refine C5.out.mono ?_
              rintro e w2 ⟨rfl, h2, b2⟩
              have hb2 := HB.out.2.trans b2
              have hcell2 := HCELL.out _ hb2
              have h2' : Bld b b (Lib.byteCells (pre ++ chunkText (cs.drop (m + 1)) ++ List.replicate (9 - S.size) 48)) w2 := by
                have e : Lib.strCells (ByteArray.extract ⟨#[48, 48, 48, 48, 48, 48, 48, 48, 48]⟩ S.size 9) = Lib.byteCells (List.replicate (9 - S.size) 48) := by
                  rw [Lib.extract_eq, Lib.strCells_toArray]
                  show Lib.byteCells (((List.replicate 9 48).drop S.size).take (9 - S.size)) = _
                  rw [List.drop_replicate, List.take_replicate, Nat.min_self]
                rw [e] at h2
                simpa [Lib.byteCells] using h2
              have C6 := Hd (write_string b b _ S w2 h2' (by
                have := HLEN.out (m + 1)
                rw [Lib.byteCells_length, List.length_append, List.length_replicate]; omega) (HLB.out _ hb2))
              have HB2 := Hd hb2
              clear h2 b2 hb2 h2' hcell C5
              go_wp2_with fail
              refine C6.out.mono ?_
              rintro e w3 ⟨rfl, h3, b3⟩
              have HN := Hd (show Bld b b (Lib.byteCells (pre ++ chunkText (cs.drop m))) w3 ∧ Below b wq w3 from ⟨by
                rw [chunk_next HM.out, pad9 _ (HLT.out _ (List.getElem_mem hm))]
                rw [HS.out] at h3
                have e : (ByteArray.size ⟨(Lib.decDigits cs[m]).toArray⟩) = (Lib.decDigits cs[m]).length := by simp [ByteArray.size]
                rw [e, Lib.strCells_toArray] at h3
                simpa [Lib.byteCells] using h3, HB2.out.trans b3⟩)
              clear h3 b3 C6 hcell2
              go_wp2_with fail
              go_roundw
              case rel => exact ⟨m, (m : Int) - 1, by go_num, rfl, by omega, HN⟩
              case measure => simp [intOf]
            · have hd : decide ((m : Int) < (cs.length : Int) - 1) = false := by simp; omega
              have C5 := Hd (write_string b b _ S wr HB.out.1 (by
                have := HLEN.out (m + 1)
                rw [Lib.byteCells_length]; omega) (HLB.out _ HB.out.2))
              have HM := Hd (show m + 1 = cs.length by omega)
              clear hlast
              go_wp2_with fail
              refine C5.out.mono ?_
              rintro e w3 ⟨rfl, h3, b3⟩
              have HN := Hd (show Bld b b (Lib.byteCells (pre ++ chunkText (cs.drop m))) w3 ∧ Below b wq w3 from ⟨by
                rw [chunk_top HM.out]
                rw [HS.out, Lib.strCells_toArray, HM.out, List.drop_length] at h3
                simpa [Lib.byteCells, chunkText] using h3, HB.out.2.trans b3⟩)
              clear h3 b3 C5
              go_wp2_with fail
              go_roundw
              case rel => exact ⟨m, (m : Int) - 1, by go_num, rfl, by omega, HN⟩
              case measure => simp [intOf]
    · have hlen : decide (0 < (natL gk).length) = true := decide_eq_true (by
        rcases Nat.eq_zero_or_pos (natL gk).length with e | e
        · have := natL_eq_nil.1 (List.eq_nil_of_length_eq_zero e)
          omega
        · exact e)
      have hcnt := HR.out.count h0 HV.out
      have C1 := Hd (exact_short g cap cap 1000000000 (natL gk) (by omega) (by omega) (limbs_natL _) (by have := HV.out; have := natL_mono (show gk ≤ V from Nat.le_trans (Nat.le_mul_of_pos_right _ (Nat.two_pow_pos _)) HR.out.big); omega) wr HR.out.front)
      rw [val_natL] at C1
      go_wp2_with fail
      refine C1.out.mono ?_
      rintro e w2 ⟨rfl, zs', hz1', hz2', hz3', hf', hgr⟩
      have hlow := HR.out.low.trans ((grown_below hgr (Nat.le_trans (Nat.le_succ _) HR.out.hg) HR.out.low.size))
      have hmod : gk % 1000000000 < 1000000000 := Nat.mod_lt _ (by omega)
      have C2 := Hd (Tryd.strconv_Itoa ((gk % 1000000000 : Nat) : Int) (by omega) (by omega) w2 (HT.out _ hlow))
      rw [Lib.itoa_nonneg] at C2
      have hne1 : (Value.slice AP cs.length cP).ownBlock ≠ some g := by
        obtain ⟨rest, -, hbk⟩ := HR.out.front.ex
        exact own_blk_ne HR.out.parts hbk (by decide)
      have HOW := Hd (HR.out.parts.kept hgr (Or.inr hne1))
      have HF2 := Hd hf'
      have HLOW := Hd hlow
      have HPX := Hd (HR.out.px.grown hgr (by
        intro e
        injection e with e
        have := HR.out.hg
        omega))
      have HZ' := Hd (show zs'.length = (natL gk).length ∧ Limbs zs' ∧ val zs' = gk / 1000000000 from ⟨hz1', hz2', hz3'⟩)
      have HALL := Hd (And.intro HR.out.all (And.intro HR.out.big HR.out.hg))
      have HNE := Hd hne1
      have HCNT := Hd hcnt
      have HK0 := Hd h0
      clear hz1' hz2' hz3' hf' hgr hlow hne1 C1 HR hcnt hlen h0
      go_wp2_with fail
      refine C2.out.mono ?_
      rintro e w3' ⟨rfl, k', os', hw3⟩
      have hb3 : Below w2.heap.size w2 w3' := by rw [hw3]; exact Lib.below_grow _ _ (Nat.le_refl _) _ _
      have how := own_below HOW.out hb3
      have HF3 := Hd (HF2.out.below hb3)
      have HPX3 := Hd (HPX.out.below hb3)
      have HL3 := Hd (belowTo HLOW.out hb3)
      obtain ⟨S, hS⟩ : ∃ S : ByteArray, S = ⟨(Lib.decDigits (gk % 1000000000)).toArray⟩ := ⟨_, rfl⟩
      rw [← hS]
      have HS := Hd hS
      have hs3 := HL3.out.size
      have hs4 : w.heap.size + 1 ≤ w3'.heap.size := by have := HF3.out.lt; have := HALL.out.2.2; omega
      have hcn := HCNT.out
      clear hw3 hb3 hS HF2 HPX HLOW HOW C2
      go_wp2_with (
        at_builtin
        refine wpList_append_any _ rfl (.tmp 15) (.tmp 20) _ rfl (w.heap.size + 1) 9 i0 _ 1 16 Tryd.underlying52 hi hz0 hz1 hz2 rfl (by omega) (.slice AP cs.length cP) cs.length (strs cs) rfl (how.alloc _) (w3'.heap.size + 1) (some ⟨w3'.heap.size, 0, none⟩) 1 1 [.string S] rfl (Reads.new1 w3' _ 1 _ rfl) (by intro x hx; simp at hx; subst hx; rfl) (by unfold maxLen; omega) (by omega) (by simp; omega) ?_
        intro v' w4 ho hg4 hat
        obtain ⟨A5, c5, rfl⟩ := own_form (by omega) ho
        have HF4 := Hd ((HF3.out.alloc (.cells #[.string S] 9)).stays hg4 (fun e => HNE.out e.symm))
        have HPX4 := Hd ((HPX3.out.alloc (.cells #[.string S] 9)).grown hg4 (fun e => by
          have := (how.lt _ e.symm).1
          omega))
        have HL4 := Hd ((HL3.out.alloc (by omega) (.cells #[.string S] 9)).grown hg4 (by simp; omega) (fun k hk => by have := (how.lt k hk).1; omega))
        have HO4 := Hd ho
        clear ho hg4 hat)
      have C3 := exact_trim (some ⟨g, 0, none⟩) cap zs' HZ'.out.2.1 HF4.out.fits HC.out w4.heap.size w4 HF4.out.reads
      rw [HZ'.out.1, HZ'.out.2.2] at C3
      have H3 := Hd C3
      have HFN := Hd (show Front w4 g cap (natL (gk / 1000000000)) from by
        have := HF4.out.cut (natL (val zs')).length
        rw [← natL_take HZ'.out.2.1, HZ'.out.2.2] at this
        exact this)
      have HN := Hd (show Dg w w4 n1 (.slice A (natL V).length c) V (gk / 1000000000) (cs ++ [gk % 1000000000]) (.slice A5 (cs.length + 1) c5) g cap from
        ⟨HL4.out, HFN.out, HALL.out.2.2, by
          have e : strs (cs ++ [gk % 1000000000]) = strs cs ++ [.string S] := by rw [HS.out]; simp [strs]
          rw [e, List.length_append, List.length_singleton]; exact HO4.out, HPX4.out, by
          rw [HALL.out.1, chunks_cons (by have := HK0.out; omega)]; simp, by
          rw [List.length_append, List.length_singleton]; exact big_next HALL.out.2.1, by
          rw [List.length_append, List.length_singleton]; have := HCNT.out; omega⟩)
      have HM := Hd (show gk / 1000000000 < gk from Nat.div_lt_self HK0.out (by omega))
      clear C3 HF4 HPX4 HL4 HO4 HFN HALL HS HZ' how hs3 hs4 hcn HNE HF3 HPX3 HL3 hmod
      go_wp2_with fail
      refine H3.out.mono ?_
      rintro e w5 ⟨rfl, rfl⟩
      go_wp2_with fail
      go_roundg (gk / 1000000000)
      case measure => exact HM.out
      case rel => exact ⟨A5, c5, cs ++ [gk % 1000000000], by simp, rfl, by simpa using HN⟩

theorem digits_nought (n1 : Bool) (A : Option Addr) (c : Nat) (w : World) (h : Raw w A c []) :
    Calls Tryd.prog 18 #[.agg #[.bool n1, .slice A ([] : List Nat).length c]] w fun e w' => e = .returned (.string ⟨#[48]⟩) ∧ Below w.heap.size w w' := by
  have b0 := (Below.refl w.heap.size w).alloc (Nat.le_refl _) (.cells #[.bool n1, .slice A ([] : List Nat).length c] 24)
  have rx := h.alloc (.cells #[.bool n1, .slice A ([] : List Nat).length c] 24)
  clear h
  go_enter Tryd.func18, Tryd.ntmps18
  have C1 := Hd (slices_Clone A c [] (by simp) _ rx)
  have HB := Hd b0
  clear rx b0
  go_wp2_with fail
  refine C1.out.mono ?_
  rintro e w1 ⟨v, rfl, hv, hb1⟩
  obtain ⟨A1, c1, rfl, -⟩ := hv.form
  have HF := Hd (belowTo HB.out hb1)
  clear hv hb1 C1
  go_wp2_with fail
  go_loop [3, 4] (fun p l => p = .slice none 0 0 ∧ l = .slice A1 0 c1) (fun _ _ => 0)
  case atStart => exact ⟨rfl, rfl⟩
  case round =>
    obtain ⟨rfl, rfl⟩ := hrel
    go_wp2_with fail
    go_ret
    exact ⟨rfl, HF.out⟩
theorem exact_Digits (n1 : Bool) (A : Option Addr) (c : Nat) (xs : List Nat) (hcx : Canon xs) (hl : xs.length ≤ 1000000) (w : World) (h : Raw w A c xs) (htab : powTab w) :
    Calls Tryd.prog 18 #[.agg #[.bool n1, .slice A xs.length c]] w fun e w' => e = .returned (.string ⟨(Lib.itoa (ival n1 xs)).toArray⟩) ∧ Below w.heap.size w w' := by
  by_cases hx : xs = []
  · subst hx
    have e : Lib.itoa (ival n1 []) = [48] := by
      have : ival n1 [] = ((0 : Nat) : Int) := by unfold ival; cases n1 <;> rfl
      rw [this, Lib.itoa_nonneg, Lib.decDigits_one (by omega)]; rfl
    rw [e]
    exact digits_nought n1 A c w h
  · refine digits_more n1 A c xs hx hcx hl _ (Hd ?_) w h htab
    have hp : 0 < val xs := by
      rcases Nat.eq_zero_or_pos (val xs) with h0 | h0
      · have := natL_val h.limbs hcx
        rw [h0, natL_zero] at this
        exact absurd this.symm hx
      · exact h0
    unfold ival
    cases n1
    · simp [Lib.itoa_nonneg]
    · simp only [if_true]
      rw [Lib.itoa_neg _ hp]
/- Digits of the references: the decimal text of a whole number. -/

structure Rd (w wr : World) (n1 : Bool) (S : Value) (V v : Nat) (cs : List Nat) (AP : Option Addr) (cP : Nat) (AL : Option Addr) (cL : Nat) : Prop where
  low : Below w.heap.size w wr
  raw : Raw wr AL cL (natL v)
  parts : wr.ownsRow (w.heap.size + 1) 40 1 (.slice AP cs.length cP) cs.length (cellsU cs)
  px : Pair wr w.heap.size 24 (.bool n1) S
  all : chunks V = cs ++ chunks v
  big : v * 2 ^ (29 * cs.length) ≤ V
  few : cs.length ≤ 2000001
def Rev (M : List UInt8) (i : Nat) (ys : List UInt8) : Prop := ys.length = M.length ∧ ∀ j, j < M.length → ys[j]? = if j < i ∨ M.length ≤ j + i then M[M.length - 1 - j]? else M[j]?
theorem Rev.start (M : List UInt8) : Rev M 0 M := ⟨rfl, fun j hj => by rw [if_neg (by omega)]⟩
theorem Rev.done {M ys : List UInt8} {i : Nat} (h : Rev M i ys) (hi : M.length ≤ 2 * i + 1) : ys = M.reverse := by
  apply List.ext_getElem?
  intro j
  rcases Nat.lt_or_ge j M.length with hj | hj
  · rw [h.2 j hj, List.getElem?_reverse hj]
    split
    · rfl
    · rw [show M.length - 1 - j = j by omega]
  · rw [List.getElem?_eq_none (by rw [h.1]; exact hj), List.getElem?_eq_none (by simpa using hj)]
theorem Rev.at_ {M ys : List UInt8} {i j : Nat} (h : Rev M i ys) (hj : j < M.length) (h1 : i ≤ j) (h2 : j + i < M.length) : ys[j]'(by rw [h.1]; exact hj) = M[j] := by
  have := h.2 j hj
  rw [if_neg (by omega), List.getElem?_eq_getElem hj, List.getElem?_eq_getElem (by rw [h.1]; exact hj)] at this
  exact Option.some.inj this
end Go.Proofs.YtbdliabfdplohaaDoor
