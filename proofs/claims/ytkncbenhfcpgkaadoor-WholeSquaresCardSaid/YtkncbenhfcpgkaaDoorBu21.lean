/- Several texts in one: Digits, KeptAt, Alive. -/
import Derived.Test.YtkncbenhfcpgkaaDoorBu20
import Derived.Test.YtkncbenhfcpgkaaDoorBuHd
import Derived.Test.YtkncbenhfcpgkaaDoorBu07
import Derived.Test.YtkncbenhfcpgkaaDoorBu14
import Derived.Test.YtkncbenhfcpgkaaDoorBu03
import Derived.Test.YtkncbenhfcpgkaaDoorBu13
import Derived.Test.YtkncbenhfcpgkaaDoorBu10
import Derived.Test.YtkncbenhfcpgkaaDoorBu09
import Derived.Test.YtkncbenhfcpgkaaDoorBu01
import Derived.Test.YtkncbenhfcpgkaaDoorBu05
import Derived.Test.YtkncbenhfcpgkaaDoorBu04
import Derived.Test.YtkncbenhfcpgkaaDoorBu02
import Derived.Test.YtkncbenhfcpgkaaDoorBu11
import Derived.Test.YtkncbenhfcpgkaaDoorBu12
import Derived.Test.YtkncbenhfcpgkaaDoorBu06
import Derived.Test.YtkncbenhfcpgkaaDoorBu08
import Derived.Lib.AppendIntMem
import Derived.Deep.LoopGhost
import Derived.Test.YtkncbenhfcpgkaaDoorBu15
import Derived.Test.YtkncbenhfcpgkaaDoorBu19
import Derived.Test.YtkncbenhfcpgkaaDoorBu17
import Derived.Test.YtkncbenhfcpgkaaDoorBu18
import Derived.Test.YtkncbenhfcpgkaaDoorBu16
set_option maxRecDepth 100000
set_option maxHeartbeats 8000000
/- Digits of package exact: the decimal text of a whole number. -/
namespace Go.Proofs.YtkncbenhfcpgkaaDoor
open Go.RowKit

abbrev powTab (w : World) : Prop := Lib.TabIs Tryd.prog w "internal/strconv.uint64pow10" .u64 Lib.pow10Tab
theorem stringInfo : (Tryd.prog.info? 9).map (fun i => (i.zero, i.size, i.bytes)) = some (some (.string ⟨#[]⟩), 1, 16) := by kernel_rfl
def strs (cs : List Nat) : List Value := cs.map fun c => Value.string ⟨(Lib.decDigits c).toArray⟩
structure Dg (w wr : World) (n1 : Bool) (S : Value) (V v : Nat) (cs : List Nat) (pv : Value) (g cap : Nat) : Prop where
  low : Below w.heap.size w wr
  front : Front wr g cap (natL v)
  hg : w.heap.size + 1 ≤ g
  parts : wr.ownsRow (w.heap.size + 1) 9 1 pv cs.length (strs cs)
  px : Pair wr w.heap.size 24 (.bool n1) S
  all : chunks V = cs ++ chunks v
  big : v * 2 ^ (29 * cs.length) ≤ V
  few : cs.length ≤ 2000001
theorem Dg.count {w wr : World} {n1 : Bool} {S : Value} {V v L : Nat} {cs : List Nat} {pv : Value} {g cap : Nat} (h : Dg w wr n1 S V v cs pv g cap) (hv : 0 < v) (hV : (natL V).length ≤ L) : cs.length ≤ 2 * L := by
  have h1 : V < 2 ^ (32 * L) := by
    have := natL_length_le.1 hV
    rw [show 4294967296 = 2 ^ 32 by decide, ← Nat.pow_mul] at this
    exact this
  have h2 : 2 ^ (29 * cs.length) ≤ V := Nat.le_trans (Nat.le_mul_of_pos_left _ hv) h.big
  have h3 : 2 ^ (29 * cs.length) < 2 ^ (32 * L) := by omega
  have := (Nat.pow_lt_pow_iff_right (by omega)).1 h3
  omega
theorem big_next {v n V : Nat} (h : v * 2 ^ (29 * n) ≤ V) : v / 1000000000 * 2 ^ (29 * (n + 1)) ≤ V := by
  rw [Nat.mul_add, Nat.mul_one, Nat.pow_add]
  generalize 2 ^ (29 * n) = p at *
  have h1 : v / 1000000000 * 2 ^ 29 ≤ v := by
    have : (2 : Nat) ^ 29 ≤ 1000000000 := by decide
    calc v / 1000000000 * 2 ^ 29 ≤ v / 1000000000 * 1000000000 := Nat.mul_le_mul_left _ this
      _ ≤ v := Nat.div_mul_le_self _ _
  calc v / 1000000000 * (p * 2 ^ 29) = v / 1000000000 * 2 ^ 29 * p := by rw [Nat.mul_comm p, Nat.mul_assoc]
    _ ≤ v * p := Nat.mul_le_mul_right _ h1
    _ ≤ V := h

theorem digits_more (n1 : Bool) (A : Option Addr) (c : Nat) (xs : List Nat) (hne : xs ≠ []) (hcx : Canon xs) (hl : xs.length ≤ 1000000) (z : List UInt8) (HZ : Hid (z = if n1 then 45 :: Lib.decDigits (val xs) else Lib.decDigits (val xs))) (w : World) (h : Raw w A c xs) (htab : powTab w) :
    Calls Tryd.prog 31 #[.agg #[.bool n1, .slice A xs.length c]] w fun e w' => e = .returned (.string ⟨z.toArray⟩) ∧ Below w.heap.size w w' := by
  obtain ⟨i0, hi, hz0, hz1, hz2⟩ := info_parts stringInfo
  have px := Pair.new w 24 (.bool n1) (.slice A xs.length c)
  have b0 := (Below.refl w.heap.size w).alloc (Nat.le_refl _) (.cells #[.bool n1, .slice A xs.length c] 24)
  have rx := h.alloc (.cells #[.bool n1, .slice A xs.length c] 24)
  have HT := Hd (Lib.tabBelow_of_tabIs htab)
  obtain ⟨V, hV⟩ : ∃ V, V = val xs := ⟨_, rfl⟩
  have eV : natL V = xs := by rw [hV]; exact natL_val h.limbs hcx
  have hpV : 0 < V := by
    rcases Nat.eq_zero_or_pos V with h0 | h0
    · rw [h0, natL_zero] at eV; exact absurd eV.symm hne
    · exact h0
  have HX := Hd h.limbs
  rw [← hV] at HZ
  clear h htab hV
  go_enter Tryd.func31, Tryd.ntmps31
  obtain ⟨W, E⟩ : ∃ W, W = w.alloc (.cells #[.bool n1, .slice A xs.length c] 24) := ⟨_, rfl⟩
  have hsW : W.heap.size = w.heap.size + 1 := by rw [E]; simp
  have C1 := Hd (slices_Clone A c xs (by omega) W (by rw [E]; exact rx))
  go_wp2_with fail
  rw [← E] at px b0 ⊢
  clear E rx
  refine C1.out.mono ?_
  rintro e w1 ⟨v, rfl, hv, hb1⟩
  obtain ⟨g, cap, rfl, hg, hcap, hf⟩ := hv.front hne
  have H0 := Hd (show Dg w w1 n1 (.slice A xs.length c) V V [] (.slice none 0 0) g cap from
    ⟨belowTo b0 hb1, by rw [eV]; exact hf, by omega, World.ownsRow_nil _ _ _ _, px.below hb1, rfl, by simp, by simp⟩)
  have HV := Hd (show (natL V).length ≤ 1000000 by rw [eV]; exact hl)
  have HC := Hd hcap
  rw [← eV] at *
  clear px b0 hb1 hv hf hg C1 eV hsW hcap
  go_wp2_with fail
  go_loopg [3, 4] (V) (fun v p l wr => ∃ AP cP cs, p = .slice AP cs.length cP ∧ l = .slice (some ⟨g, 0, none⟩) (natL v).length cap ∧ Hid (Dg w wr n1 (.slice A (natL V).length c) V v cs (.slice AP cs.length cP) g cap))
  case atStart => exact ⟨none, 0, [], rfl, rfl, H0⟩
  case round =>
    clear H0
    obtain ⟨AP, cP, cs, rfl, rfl, HR⟩ := hrel
    rcases Nat.eq_zero_or_pos gk with h0 | h0
    · subst h0
      have hall := HR.out.all
      rw [chunks_nil, List.append_nil] at hall
      have hn0 : (natL 0).length = 0 := by simp [natL_zero]
      rw [hn0]
      have hcs : cs ≠ [] := fun e => by
        rw [e, chunks_cons (by omega)] at hall
        cases hall
      have hd : ((cs.length : Int) == 0) = false := by
        have : cs.length ≠ 0 := fun e => hcs (List.eq_nil_of_length_eq_zero e)
        simp; omega
      have HALL := Hd hall
      have HCS := Hd hcs
      clear hn0 hall hcs
      have hlt : ∀ c ∈ cs, c < 1000000000 := fun c hc => chunks_lt V c (by rw [HALL.out]; exact hc)
      have hcnt := HR.out.few
      have HLT := Hd hlt
      obtain ⟨l1, x0, x1, -, -⟩ := (HR.out.px.alloc (.cells #[.pointer none, .slice none 0 0] 73)).facts
      obtain ⟨pre, hpre⟩ : ∃ pre : List UInt8, pre = if n1 then [45] else [] := ⟨_, rfl⟩
      have HP := Hd (show z = pre ++ chunkText cs by
        rw [HZ.out, hpre, ← HALL.out, chunk_text V (by omega)]; cases n1 <;> simp)
      have HPL := Hd (show pre.length ≤ 1 by rw [hpre]; cases n1 <;> simp)
      have HLEN := Hd (show ∀ k, (pre ++ chunkText (cs.drop k)).length ≤ 20000000 from fun k => by
        have h1 := chunkText_length (cs.drop k) (fun c hc => hlt c (List.mem_of_mem_drop hc))
        have h2 := HPL.out
        have h3 : (cs.drop k).length ≤ cs.length := by simp
        rw [List.length_append]; omega)
      have HBf := Hd (Lib.fresh_isBuilder 73 5 wr)
      have HBw := Hd ((Below.refl wr.heap.size wr).alloc (Nat.le_refl _) (.cells #[.pointer none, .slice none 0 0] 73))
      have HRD := Hd (Reads.of_own HR.out.parts)
      have HLW := Hd HR.out.low
      clear hlt HZ HT HX HR
      cases n1
      case' false =>
        simp at hpre
        go_wp2_with fail
        have H2 := Hd (show Bld wr.heap.size wr.heap.size (Lib.byteCells (pre ++ chunkText (cs.drop cs.length))) (wr.alloc (.cells #[.pointer none, .slice none 0 0] 73)) ∧ Below wr.heap.size wr (wr.alloc (.cells #[.pointer none, .slice none 0 0] 73)) from ⟨by rw [hpre, List.drop_length]; exact HBf.out, HBw.out⟩)
        clear HBf HBw l1 x0 x1 hpre
        obtain ⟨wz, hwz⟩ : ∃ wz : World, wz = wr.alloc (.cells #[.pointer none, .slice none 0 0] 73) := ⟨_, rfl⟩
        rw [← hwz] at H2 ⊢
        clear hwz
      case' true =>
        have hbwx := HBf.out
        have C3 := Hd (write_byte wr.heap.size wr.heap.size [] 45 _ HBf.out (by simp) (by simp))
        go_wp2_with fail
        refine C3.out.mono ?_
        rintro e wz ⟨rfl, hwb, hbw⟩
        have H2 := Hd (show Bld wr.heap.size wr.heap.size (Lib.byteCells (pre ++ chunkText (cs.drop cs.length))) wz ∧ Below wr.heap.size wr wz from ⟨by rw [hpre, List.drop_length]; exact hwb, HBw.out.trans hbw⟩)
        clear HBf HBw l1 x0 x1 hpre hwb hbw C3 hbwx
        go_wp2_with fail
      all_goals
        obtain ⟨b, hb⟩ : ∃ b, b = wr.heap.size := ⟨_, rfl⟩
        rw [← hb] at H2 HRD ⊢
        obtain ⟨wq, hwq⟩ : ∃ wq : World, wq = wr := ⟨_, rfl⟩
        rw [← hwq] at H2 HRD HLW hb
        clear hwq
        have hlb : ∀ W', Below b wq W' → b ≤ W'.heap.size := fun W' h => by have := h.size; omega
        have HLB := Hd hlb
        have HLC := Hd (show ∀ W', Below b wq W' → Below w.heap.size w W' from fun W' h => belowTo HLW.out (by rw [← hb]; exact h))
        clear hb hlb HLW
        go_loopw [6] (fun s wl => ∃ k : Nat, ∃ i : Int, s = .int .i64 i ∧ i = (k : Int) - 1 ∧ k ≤ cs.length ∧ Hid (Bld b b (Lib.byteCells (pre ++ chunkText (cs.drop k))) wl ∧ Below b wq wl)) (fun s _ => (intOf s + 1).toNat)
        case atStart => exact ⟨cs.length, _, rfl, by first | rfl | omega, Nat.le_refl _, H2⟩
        case round =>
          clear H2
          obtain ⟨k, i, rfl, hik, hk, HB⟩ := hrel
          rcases Nat.eq_zero_or_pos k with h0 | h0
          · subst h0
            have hi0 : decide (0 ≤ i) = false := by simp; omega
            have hbb := HB.out.1
            rw [List.drop_zero, ← HP.out] at hbb
            have C4 := Hd (Tryd.Builder_String_any b b z wr hbb (HLB.out _ HB.out.2))
            clear hik hk
            go_wp2_with fail
            refine C4.out.mono ?_
            rintro e wf ⟨rfl, hbf⟩
            have HFB := Hd (HLC.out _ (HB.out.2.trans hbf))
            clear hbf hbb
            go_wp2_with fail
            go_ret
            exact ⟨rfl, HFB.out⟩
          · obtain ⟨m, rfl⟩ : ∃ m, k = m + 1 := ⟨k - 1, by omega⟩
            have him : i = (m : Int) := by omega
            subst him
            have hm : m < cs.length := by omega
            have hmi : (m : Int) < (cs.length : Int) := by omega
            have hm0 : (0 : Int) ≤ (m : Int) := by omega
            obtain ⟨ad, u, rfl, had, hu, hcell⟩ := (HRD.out.below HB.out.2).at_ hm
            have hu2 : u = .string ⟨(Lib.decDigits cs[m]).toArray⟩ := by
              have : (strs cs)[m]? = some (.string ⟨(Lib.decDigits cs[m]).toArray⟩) := by simp [strs, hm]
              rw [this] at hu
              exact (Option.some.inj hu).symm
            subst hu2
            obtain ⟨S, hS⟩ : ∃ S : ByteArray, S = ⟨(Lib.decDigits cs[m]).toArray⟩ := ⟨_, rfl⟩
            rw [← hS] at hcell
            have hS9 : S.size ≤ 9 := by rw [hS]; exact dec_nine_len (HLT.out _ (List.getElem_mem hm))
            have HS := Hd hS
            have HCELL := Hd (show ∀ W', Below b wq W' → W'.cell? (ad.add m) = some (.string S) from fun W' h => by
              obtain ⟨ad', u, e, -, h2, h3⟩ := (HRD.out.below h).at_ hm
              injection e with e
              subst e
              have : (strs cs)[m]? = some (.string ⟨(Lib.decDigits cs[m]).toArray⟩) := by simp [strs, hm]
              rw [this] at h2
              rw [h3, ← Option.some.inj h2, hS])
            clear hS hu hik hk h0
            by_cases hlast : m + 1 < cs.length
            · have hd : decide ((m : Int) < (cs.length : Int) - 1) = true := by simp; omega
              have C5 := Hd (write_string b b _ (ByteArray.extract ⟨#[48, 48, 48, 48, 48, 48, 48, 48, 48]⟩ S.size 9) wr HB.out.1 (by
                have := HLEN.out (m + 1)
                have h9 : (ByteArray.extract ⟨#[48, 48, 48, 48, 48, 48, 48, 48, 48]⟩ S.size 9).size ≤ 9 := by
                  rw [Lib.extract_eq]
                  show ((List.drop S.size _).take (9 - S.size)).toArray.size ≤ 9
                  rw [List.size_toArray]
                  exact Nat.le_trans (List.length_take_le _ _) (by omega)
                rw [Lib.byteCells_length]; omega) (HLB.out _ HB.out.2))
              have HM := Hd hlast
              clear hlast
              go_wp2_with fail
              refine C5.out.mono ?_
              rintro e w2 ⟨rfl, h2, b2⟩
              have hb2 := HB.out.2.trans b2
              have hcell2 := HCELL.out _ hb2
              have h2' : Bld b b (Lib.byteCells (pre ++ chunkText (cs.drop (m + 1)) ++ List.replicate (9 - S.size) 48)) w2 := by
                have e : Lib.strCells (ByteArray.extract ⟨#[48, 48, 48, 48, 48, 48, 48, 48, 48]⟩ S.size 9) = Lib.byteCells (List.replicate (9 - S.size) 48) := by
                  rw [Lib.extract_eq, Lib.strCells_toArray]
                  show Lib.byteCells (((List.replicate 9 48).drop S.size).take (9 - S.size)) = _
                  rw [List.drop_replicate, List.take_replicate, Nat.min_self]
                rw [e] at h2
                simpa [Lib.byteCells] using h2
              have C6 := Hd (write_string b b _ S w2 h2' (by
                have := HLEN.out (m + 1)
                rw [Lib.byteCells_length, List.length_append, List.length_replicate]; omega) (HLB.out _ hb2))
              have HB2 := Hd hb2
              clear h2 b2 hb2 h2' hcell C5
              go_wp2_with fail
              refine C6.out.mono ?_
              rintro e w3 ⟨rfl, h3, b3⟩
              have HN := Hd (show Bld b b (Lib.byteCells (pre ++ chunkText (cs.drop m))) w3 ∧ Below b wq w3 from ⟨by
                rw [chunk_next HM.out, pad9 _ (HLT.out _ (List.getElem_mem hm))]
                rw [HS.out] at h3
                have e : (ByteArray.size ⟨(Lib.decDigits cs[m]).toArray⟩) = (Lib.decDigits cs[m]).length := by simp [ByteArray.size]
                rw [e, Lib.strCells_toArray] at h3
                simpa [Lib.byteCells] using h3, HB2.out.trans b3⟩)
              clear h3 b3 C6 hcell2
              go_wp2_with fail
              go_roundw
              case rel => exact ⟨m, (m : Int) - 1, by go_num, rfl, by omega, HN⟩
              case measure => simp [intOf]
            · have hd : decide ((m : Int) < (cs.length : Int) - 1) = false := by simp; omega
              have C5 := Hd (write_string b b _ S wr HB.out.1 (by
                have := HLEN.out (m + 1)
                rw [Lib.byteCells_length]; omega) (HLB.out _ HB.out.2))
              have HM := Hd (show m + 1 = cs.length by omega)
              clear hlast
              go_wp2_with fail
              refine C5.out.mono ?_
              rintro e w3 ⟨rfl, h3, b3⟩
              have HN := Hd (show Bld b b (Lib.byteCells (pre ++ chunkText (cs.drop m))) w3 ∧ Below b wq w3 from ⟨by
                rw [chunk_top HM.out]
                rw [HS.out, Lib.strCells_toArray, HM.out, List.drop_length] at h3
                simpa [Lib.byteCells, chunkText] using h3, HB.out.2.trans b3⟩)
              clear h3 b3 C5
              go_wp2_with fail
              go_roundw
              case rel => exact ⟨m, (m : Int) - 1, by go_num, rfl, by omega, HN⟩
              case measure => simp [intOf]
    · have hlen : decide (0 < (natL gk).length) = true := decide_eq_true (by
        rcases Nat.eq_zero_or_pos (natL gk).length with e | e
        · have := natL_eq_nil.1 (List.eq_nil_of_length_eq_zero e)
          omega
        · exact e)
      have hcnt := HR.out.count h0 HV.out
      have C1 := Hd (exact_short g cap cap 1000000000 (natL gk) (by omega) (by omega) (limbs_natL _) (by have := HV.out; have := natL_mono (show gk ≤ V from Nat.le_trans (Nat.le_mul_of_pos_right _ (Nat.two_pow_pos _)) HR.out.big); omega) wr HR.out.front)
      rw [val_natL] at C1
      go_wp2_with fail
      refine C1.out.mono ?_
      rintro e w2 ⟨rfl, zs', hz1', hz2', hz3', hf', hgr⟩
      have hlow := HR.out.low.trans ((grown_below hgr (Nat.le_trans (Nat.le_succ _) HR.out.hg) HR.out.low.size))
      have hmod : gk % 1000000000 < 1000000000 := Nat.mod_lt _ (by omega)
      have C2 := Hd (Tryd.strconv_Itoa ((gk % 1000000000 : Nat) : Int) (by omega) (by omega) w2 (HT.out _ hlow))
      rw [Lib.itoa_nonneg] at C2
      have hne1 : (Value.slice AP cs.length cP).ownBlock ≠ some g := by
        obtain ⟨rest, -, hbk⟩ := HR.out.front.ex
        exact own_blk_ne HR.out.parts hbk (by decide)
      have HOW := Hd (HR.out.parts.kept hgr (Or.inr hne1))
      have HF2 := Hd hf'
      have HLOW := Hd hlow
      have HPX := Hd (HR.out.px.grown hgr (by
        intro e
        injection e with e
        have := HR.out.hg
        omega))
      have HZ' := Hd (show zs'.length = (natL gk).length ∧ Limbs zs' ∧ val zs' = gk / 1000000000 from ⟨hz1', hz2', hz3'⟩)
      have HALL := Hd (And.intro HR.out.all (And.intro HR.out.big HR.out.hg))
      have HNE := Hd hne1
      have HCNT := Hd hcnt
      have HK0 := Hd h0
      clear hz1' hz2' hz3' hf' hgr hlow hne1 C1 HR hcnt hlen h0
      go_wp2_with fail
      refine C2.out.mono ?_
      rintro e w3' ⟨rfl, k', os', hw3⟩
      have hb3 : Below w2.heap.size w2 w3' := by rw [hw3]; exact Lib.below_grow _ _ (Nat.le_refl _) _ _
      have how := own_below HOW.out hb3
      have HF3 := Hd (HF2.out.below hb3)
      have HPX3 := Hd (HPX.out.below hb3)
      have HL3 := Hd (belowTo HLOW.out hb3)
      obtain ⟨S, hS⟩ : ∃ S : ByteArray, S = ⟨(Lib.decDigits (gk % 1000000000)).toArray⟩ := ⟨_, rfl⟩
      rw [← hS]
      have HS := Hd hS
      have hs3 := HL3.out.size
      have hs4 : w.heap.size + 1 ≤ w3'.heap.size := by have := HF3.out.lt; have := HALL.out.2.2; omega
      have hcn := HCNT.out
      clear hw3 hb3 hS HF2 HPX HLOW HOW C2
      go_wp2_with (
        at_builtin
        refine wpList_append_any _ rfl (.tmp 15) (.tmp 20) _ rfl (w.heap.size + 1) 9 i0 _ 1 16 Tryd.underlying68 hi hz0 hz1 hz2 rfl (by omega) (.slice AP cs.length cP) cs.length (strs cs) rfl (how.alloc _) (w3'.heap.size + 1) (some ⟨w3'.heap.size, 0, none⟩) 1 1 [.string S] rfl (Reads.new1 w3' _ 1 _ rfl) (by intro x hx; simp at hx; subst hx; rfl) (by unfold maxLen; omega) (by omega) (by simp; omega) ?_
        intro v' w4 ho hg4 hat
        obtain ⟨A5, c5, rfl⟩ := own_form (by omega) ho
        have HF4 := Hd ((HF3.out.alloc (.cells #[.string S] 9)).stays hg4 (fun e => HNE.out e.symm))
        have HPX4 := Hd ((HPX3.out.alloc (.cells #[.string S] 9)).grown hg4 (fun e => by
          have := (how.lt _ e.symm).1
          omega))
        have HL4 := Hd ((HL3.out.alloc (by omega) (.cells #[.string S] 9)).grown hg4 (by simp; omega) (fun k hk => by have := (how.lt k hk).1; omega))
        have HO4 := Hd ho
        clear ho hg4 hat)
      have C3 := exact_trim (some ⟨g, 0, none⟩) cap zs' HZ'.out.2.1 HF4.out.fits HC.out w4.heap.size w4 HF4.out.reads
      rw [HZ'.out.1, HZ'.out.2.2] at C3
      have H3 := Hd C3
      have HFN := Hd (show Front w4 g cap (natL (gk / 1000000000)) from by
        have := HF4.out.cut (natL (val zs')).length
        rw [← natL_take HZ'.out.2.1, HZ'.out.2.2] at this
        exact this)
      have HN := Hd (show Dg w w4 n1 (.slice A (natL V).length c) V (gk / 1000000000) (cs ++ [gk % 1000000000]) (.slice A5 (cs.length + 1) c5) g cap from
        ⟨HL4.out, HFN.out, HALL.out.2.2, by
          have e : strs (cs ++ [gk % 1000000000]) = strs cs ++ [.string S] := by rw [HS.out]; simp [strs]
          rw [e, List.length_append, List.length_singleton]; exact HO4.out, HPX4.out, by
          rw [HALL.out.1, chunks_cons (by have := HK0.out; omega)]; simp, by
          rw [List.length_append, List.length_singleton]; exact big_next HALL.out.2.1, by
          rw [List.length_append, List.length_singleton]; have := HCNT.out; omega⟩)
      have HM := Hd (show gk / 1000000000 < gk from Nat.div_lt_self HK0.out (by omega))
      clear C3 HF4 HPX4 HL4 HO4 HFN HALL HS HZ' how hs3 hs4 hcn HNE HF3 HPX3 HL3 hmod
      go_wp2_with fail
      refine H3.out.mono ?_
      rintro e w5 ⟨rfl, rfl⟩
      go_wp2_with fail
      go_roundg (gk / 1000000000)
      case measure => exact HM.out
      case rel => exact ⟨A5, c5, cs ++ [gk % 1000000000], by simp, rfl, by simpa using HN⟩

theorem digits_nought (n1 : Bool) (A : Option Addr) (c : Nat) (w : World) (h : Raw w A c []) :
    Calls Tryd.prog 31 #[.agg #[.bool n1, .slice A ([] : List Nat).length c]] w fun e w' => e = .returned (.string ⟨#[48]⟩) ∧ Below w.heap.size w w' := by
  have b0 := (Below.refl w.heap.size w).alloc (Nat.le_refl _) (.cells #[.bool n1, .slice A ([] : List Nat).length c] 24)
  have rx := h.alloc (.cells #[.bool n1, .slice A ([] : List Nat).length c] 24)
  clear h
  go_enter Tryd.func31, Tryd.ntmps31
  have C1 := Hd (slices_Clone A c [] (by simp) _ rx)
  have HB := Hd b0
  clear rx b0
  go_wp2_with fail
  refine C1.out.mono ?_
  rintro e w1 ⟨v, rfl, hv, hb1⟩
  obtain ⟨A1, c1, rfl, -⟩ := hv.form
  have HF := Hd (belowTo HB.out hb1)
  clear hv hb1 C1
  go_wp2_with fail
  go_loop [3, 4] (fun p l => p = .slice none 0 0 ∧ l = .slice A1 0 c1) (fun _ _ => 0)
  case atStart => exact ⟨rfl, rfl⟩
  case round =>
    obtain ⟨rfl, rfl⟩ := hrel
    go_wp2_with fail
    go_ret
    exact ⟨rfl, HF.out⟩
theorem exact_Digits (n1 : Bool) (A : Option Addr) (c : Nat) (xs : List Nat) (hcx : Canon xs) (hl : xs.length ≤ 1000000) (w : World) (h : Raw w A c xs) (htab : powTab w) :
    Calls Tryd.prog 31 #[.agg #[.bool n1, .slice A xs.length c]] w fun e w' => e = .returned (.string ⟨(Lib.itoa (ival n1 xs)).toArray⟩) ∧ Below w.heap.size w w' := by
  by_cases hx : xs = []
  · subst hx
    have e : Lib.itoa (ival n1 []) = [48] := by
      have : ival n1 [] = ((0 : Nat) : Int) := by unfold ival; cases n1 <;> rfl
      rw [this, Lib.itoa_nonneg, Lib.decDigits_one (by omega)]; rfl
    rw [e]
    exact digits_nought n1 A c w h
  · refine digits_more n1 A c xs hx hcx hl _ (Hd ?_) w h htab
    have hp : 0 < val xs := by
      rcases Nat.eq_zero_or_pos (val xs) with h0 | h0
      · have := natL_val h.limbs hcx
        rw [h0, natL_zero] at this
        exact absurd this.symm hx
      · exact h0
    unfold ival
    cases n1
    · simp [Lib.itoa_nonneg]
    · simp only [if_true]
      rw [Lib.itoa_neg _ hp]
/- Numbers at hand where memory only grows; stores that change nothing. -/

theorem KeptV.cells {B : Nat} {w w' : World} (k : KeptV B [] w w') : ∀ p : Addr, p.block < w.heap.size → w'.cell? p = w.cell? p := fun p hp => by
  rcases k.block p.block hp with e | ⟨-, T, hT, -⟩
  · unfold World.cell?; rw [e]
  · cases hT
theorem IntAt.keptNone {B : Nat} {w w' : World} {v : Value} {x : Int} (h : IntAt w v x) (k : KeptV B [] w w') : IntAt w' v x := by
  obtain ⟨A, c, h1, h2⟩ := h.form
  exact ⟨A, c, h1, h2.limbs, h2.cap, h2.most, (h2.reads.keep k.cells).more k.size⟩

theorem IntOwn.rawAt {w : World} {base c : Nat} {A : Option Addr} {x : Int} (h : IntOwn w base (.agg #[.bool (decide (x < 0)), .slice A (natL x.natAbs).length c]) x) : Raw w A c (natL x.natAbs) := by
  obtain ⟨A', c', h1, h2⟩ := h.raw
  injection h1 with h1
  simp at h1
  obtain ⟨rfl, rfl⟩ := h1
  exact h2
/- Text of package whole; alive: the answers that the document fixes. (Written by wip/whole/genalive.py.) -/

theorem powTab.below {w w' : World} (h : powTab w) (hb : Below w.heap.size w w') : powTab w' := Lib.tabBelow_of_tabIs h w' hb

theorem text_z (x : Int) (A : Option Addr) (c : Nat) (t : ByteArray) (hx : Fit x) (w : World) (h : Raw w A c (natL x.natAbs)) (htab : powTab w) (ht : t = ⟨(Lib.itoa x).toArray⟩) :
    Calls Tryd.prog 17 #[.agg #[.bool (decide (x < 0)), .slice A (natL x.natAbs).length c]] w fun e w' => e = .returned (.tuple #[.string t, .int .i64 0]) ∧ Below w.heap.size w w' := by
  have px := Pair.new w 24 (.bool (decide (x < 0))) (.slice A (natL x.natAbs).length c)
  have b0 := (Below.refl w.heap.size w).alloc (Nat.le_refl _) (.cells #[.bool (decide (x < 0)), .slice A (natL x.natAbs).length c] 24)
  have rx := h.alloc (.cells #[.bool (decide (x < 0)), .slice A (natL x.natAbs).length c] 24)
  have C0 := Hd (fun (V : World) (a : Raw V A c (natL x.natAbs)) => show Calls Tryd.prog 18 #[.agg #[.bool (decide (x < 0)), .slice A (natL x.natAbs).length c]] V fun e w' => e = .returned (.int .i64 0) ∧ Below V.heap.size V w' from by
    have := exact_Check_any (decide (x < 0)) A c _ V a
    unfold errI at this
    rwa [hx.ok, if_pos rfl] at this)
  have C1 := Hd (fun (V : World) (a : Raw V A c (natL x.natAbs)) (b : powTab V) => show Calls Tryd.prog 31 #[.agg #[.bool (decide (x < 0)), .slice A (natL x.natAbs).length c]] V fun e w' => e = .returned (.string t) ∧ Below V.heap.size V w' from by
    have := exact_Digits (decide (x < 0)) A c (natL x.natAbs) (canon_natL _) (by unfold Fit at hx; omega) V a b
    rwa [ival_at, ← ht] at this)
  have HT := Hd (htab.below b0)
  clear h htab hx ht
  go_enter Tryd.func17, Tryd.ntmps17
  go_wp2_with fail
  obtain ⟨W, E⟩ : ∃ W, W = w.alloc (.cells #[.bool (decide (x < 0)), .slice A (natL x.natAbs).length c] 24) := ⟨_, rfl⟩
  rw [← E] at px b0 rx HT ⊢
  clear E
  refine (C0.out W rx).mono ?_
  rintro e w1 ⟨rfl, hb⟩
  have px1 := px.below hb
  have rx1 := rx.below hb
  have ht1 := HT.out.below hb
  have HB := Hd (belowTo b0 hb)
  obtain ⟨l1, x0, x1, -, -⟩ := px1.facts
  clear px rx HT hb b0 px1
  go_wp2_with fail
  refine (C1.out w1 rx1 ht1).mono ?_
  rintro e w2 ⟨rfl, hb⟩
  have HF := Hd (belowTo HB.out hb)
  clear hb rx1 ht1 l1 x0 x1
  go_wp2_with fail
  go_ret2
  exact ⟨rfl, HF.out⟩

theorem text_const : (⟨#[45, 49, 56, 52, 52, 54, 55, 52, 52, 48, 55, 51, 55, 48, 57, 53, 53, 49, 54, 49, 54]⟩ : ByteArray) = ⟨(Lib.itoa (-18446744073709551616)).toArray⟩ := by
  rw [show (-18446744073709551616 : Int) = -((18446744073709551616 : Nat) : Int) from rfl, Lib.itoa_neg _ (by decide), dec_nine (by decide)]
  rw [show 18446744073709551616 / 1000000000 = 18446744073 by decide, show 18446744073709551616 % 1000000000 = 709551616 by decide, dec_nine (by decide), show 18446744073 / 1000000000 = 18 by decide, show 18446744073 % 1000000000 = 446744073 by decide, Lib.decDigits_two (by decide) (by decide)]
  rfl
theorem alive_true (w : World) (htab : powTab w) :
    Calls Tryd.prog 5 #[] w fun e w' => e = .returned (.bool true) ∧ Below w.heap.size w w' := by
  obtain ⟨p, h_p⟩ : ∃ z : Int, z = -4294967296 := ⟨_, rfl⟩
  obtain ⟨q, h_q⟩ : ∃ z : Int, z = 4294967296 := ⟨_, rfl⟩
  obtain ⟨m, h_m⟩ : ∃ z : Int, z = -18446744073709551616 := ⟨_, rfl⟩
  obtain ⟨s, h_s⟩ : ∃ z : Int, z = -7 := ⟨_, rfl⟩
  obtain ⟨t, h_t⟩ : ∃ z : Int, z = 2 := ⟨_, rfl⟩
  obtain ⟨u, h_u⟩ : ∃ z : Int, z = -3 := ⟨_, rfl⟩
  obtain ⟨v, h_v⟩ : ∃ z : Int, z = -1 := ⟨_, rfl⟩
  obtain ⟨a, h_a⟩ : ∃ z : Int, z = 7 := ⟨_, rfl⟩
  obtain ⟨n, h_n⟩ : ∃ z : Int, z = 0 := ⟨_, rfl⟩
  obtain ⟨tx, h_tx⟩ : ∃ t : ByteArray, t = ⟨#[45, 49, 56, 52, 52, 54, 55, 52, 52, 48, 55, 51, 55, 48, 57, 53, 53, 49, 54, 49, 54]⟩ := ⟨_, rfl⟩
  have F_p := Hd (show Fit p from Fit.small (by rw [h_p]; decide))
  have F_q := Hd (show Fit q from Fit.small (by rw [h_q]; decide))
  have F_m := Hd (show Fit m from by rw [h_m]; decide)
  have F_s := Hd (show Fit s from Fit.small (by rw [h_s]; decide))
  have F_t := Hd (show Fit t from Fit.small (by rw [h_t]; decide))
  have F_u := Hd (show Fit u from Fit.small (by rw [h_u]; decide))
  have F_v := Hd (show Fit v from Fit.small (by rw [h_v]; decide))
  have F_a := Hd (show Fit a from Fit.small (by rw [h_a]; decide))
  have F_n := Hd (show Fit n from Fit.small (by rw [h_n]; decide))
  have O_p := Hd (fun (V : World) => of_n (-4294967296) p h_p (by decide) (by decide) V)
  have O_q := Hd (fun (V : World) => of_n (4294967296) q h_q (by decide) (by decide) V)
  have O_s := Hd (fun (V : World) => of_n (-7) s h_s (by decide) (by decide) V)
  have O_t := Hd (fun (V : World) => of_n (2) t h_t (by decide) (by decide) V)
  have O_u := Hd (fun (V : World) => of_n (-3) u h_u (by decide) (by decide) V)
  have O_v := Hd (fun (V : World) => of_n (-1) v h_v (by decide) (by decide) V)
  have O_a := Hd (fun (V : World) => of_n (7) a h_a (by decide) (by decide) V)
  have O_n := Hd (fun (V : World) => of_n (0) n h_n (by decide) (by decide) V)
  have HM := Hd (show m = p * q from by rw [h_m, h_p, h_q]; decide)
  have HQ := Hd (show u = s.tdiv t ∧ v = s.tmod t ∧ t ≠ 0 from ⟨by rw [h_u, h_s, h_t]; decide, by rw [h_v, h_s, h_t]; decide, by rw [h_t]; decide⟩)
  have HN := Hd h_n
  have HTX := Hd (show tx = ⟨(Lib.itoa m).toArray⟩ from by rw [h_tx, h_m]; exact text_const)
  have HC1 := Hd (show (0 : Int) = cmpz u u from by unfold cmpz; simp)
  have HC2 := Hd (show (0 : Int) = cmpz v v from by unfold cmpz; simp)
  have HC3 := Hd (show (-1 : Int) = cmpz u v from by rw [h_u, h_v]; decide)
  have h_tx2 := Hd h_tx
  clear h_p h_q h_m h_s h_t h_u h_v h_a h_n h_tx
  have HT := Hd htab
  have HBW := Hd (Below.refl w.heap.size w)
  clear htab
  go_enter Tryd.func5, Tryd.ntmps5
  go_wp2_with fail
  refine (O_p.out w).mono ?_
  rintro e x1 ⟨A1, c1, rfl, r1, hb⟩
  have HT := Hd (HT.out.below hb)
  have HBW := Hd (belowTo HBW.out hb)
  have R_1 := Hd r1
  clear hb r1
  go_wp2_with fail
  refine (O_q.out x1).mono ?_
  rintro e x2 ⟨A2, c2, rfl, r2, hb⟩
  have R_1 := Hd (R_1.out.below hb)
  have HT := Hd (HT.out.below hb)
  have HBW := Hd (belowTo HBW.out hb)
  have R_2 := Hd r2
  clear hb r2
  go_wp2_with fail
  refine (mul_z p q m A1 A2 c1 c2 F_p.out F_q.out x2 R_1.out R_2.out HM.out F_m.out).mono ?_
  rintro e x3 ⟨A3, c3, rfl, r3, hb⟩
  have R_1 := Hd (R_1.out.below hb)
  have R_2 := Hd (R_2.out.below hb)
  have HT := Hd (HT.out.below hb)
  have HBW := Hd (belowTo HBW.out hb)
  have R_3 := Hd r3
  clear hb r3
  go_upto_region 2 with fail
  have ha := ((Below.refl x3.heap.size x3).alloc (Nat.le_refl _) (.cells #[.bool (decide (m < 0)), .slice A3 (natL m.natAbs).length c3] 24))
  have p_3 := (Pair.new x3 24 (.bool (decide (m < 0))) (.slice A3 (natL m.natAbs).length c3))
  obtain ⟨y4, E⟩ : ∃ W, W = (x3.alloc (.cells #[.bool (decide (m < 0)), .slice A3 (natL m.natAbs).length c3] 24)) := ⟨_, rfl⟩
  rw [← E] at ha p_3 ⊢
  have V_3 := Hd (NV.of R_3.out ha p_3)
  have R_1 := Hd (R_1.out.below ha)
  have R_2 := Hd (R_2.out.below ha)
  have HT := Hd (HT.out.below ha)
  have HBW := Hd (belowTo HBW.out ha)
  obtain ⟨g4, hg⟩ : ∃ g, g = x3.heap.size := ⟨_, rfl⟩
  rw [← hg] at V_3 ⊢
  clear E ha hg p_3
  go_wp2_with fail
  refine (O_s.out y4).mono ?_
  rintro e x5 ⟨A4, c4, rfl, r4, hb⟩
  have V_3 := Hd (V_3.out.below hb)
  have R_1 := Hd (R_1.out.below hb)
  have R_2 := Hd (R_2.out.below hb)
  have HT := Hd (HT.out.below hb)
  have HBW := Hd (belowTo HBW.out hb)
  have R_4 := Hd r4
  clear hb r4
  go_wp2_with fail
  refine (O_t.out x5).mono ?_
  rintro e x6 ⟨A5, c5, rfl, r5, hb⟩
  have V_3 := Hd (V_3.out.below hb)
  have R_1 := Hd (R_1.out.below hb)
  have R_2 := Hd (R_2.out.below hb)
  have R_4 := Hd (R_4.out.below hb)
  have HT := Hd (HT.out.below hb)
  have HBW := Hd (belowTo HBW.out hb)
  have R_5 := Hd r5
  clear hb r5
  go_wp2_with fail
  refine (quorem_z s t A4 A5 c4 c5 F_s.out F_t.out x6 R_4.out R_5.out u v HQ.out.2.2 HQ.out.1 HQ.out.2.1).mono ?_
  rintro e x7 ⟨A6, c6, A7, c7, rfl, r6, r7, hb⟩
  have V_3 := Hd (V_3.out.below hb)
  have R_1 := Hd (R_1.out.below hb)
  have R_2 := Hd (R_2.out.below hb)
  have R_4 := Hd (R_4.out.below hb)
  have R_5 := Hd (R_5.out.below hb)
  have HT := Hd (HT.out.below hb)
  have HBW := Hd (belowTo HBW.out hb)
  have R_6 := Hd r6
  have R_7 := Hd r7
  clear hb r6 r7
  go_upto_region 3 with fail
  have ha := (((Below.refl x7.heap.size x7).alloc (Nat.le_refl _) (.cells #[.bool (decide (u < 0)), .slice A6 (natL u.natAbs).length c6] 24)).alloc (by simp) (.cells #[.bool (decide (v < 0)), .slice A7 (natL v.natAbs).length c7] 24))
  have p_6 := ((Pair.new x7 24 (.bool (decide (u < 0))) (.slice A6 (natL u.natAbs).length c6)).alloc (.cells #[.bool (decide (v < 0)), .slice A7 (natL v.natAbs).length c7] 24))
  have p_7 := (Pair.new (x7.alloc (.cells #[.bool (decide (u < 0)), .slice A6 (natL u.natAbs).length c6] 24)) 24 (.bool (decide (v < 0))) (.slice A7 (natL v.natAbs).length c7))
  simp only [World.size_alloc] at p_7
  obtain ⟨y8, E⟩ : ∃ W, W = ((x7.alloc (.cells #[.bool (decide (u < 0)), .slice A6 (natL u.natAbs).length c6] 24)).alloc (.cells #[.bool (decide (v < 0)), .slice A7 (natL v.natAbs).length c7] 24)) := ⟨_, rfl⟩
  rw [← E] at ha p_6 p_7 ⊢
  have V_6 := Hd (NV.of R_6.out ha p_6)
  have V_7 := Hd (NV.of R_7.out ha p_7)
  have V_3 := Hd (V_3.out.below ha)
  have R_1 := Hd (R_1.out.below ha)
  have R_2 := Hd (R_2.out.below ha)
  have R_4 := Hd (R_4.out.below ha)
  have R_5 := Hd (R_5.out.below ha)
  have HT := Hd (HT.out.below ha)
  have HBW := Hd (belowTo HBW.out ha)
  obtain ⟨g8, hg⟩ : ∃ g, g = x7.heap.size := ⟨_, rfl⟩
  rw [← hg] at V_6 V_7 ⊢
  clear E ha hg p_6 p_7
  go_wp2_with fail
  refine (O_a.out y8).mono ?_
  rintro e x9 ⟨A8, c8, rfl, r8, hb⟩
  have V_3 := Hd (V_3.out.below hb)
  have V_6 := Hd (V_6.out.below hb)
  have V_7 := Hd (V_7.out.below hb)
  have R_1 := Hd (R_1.out.below hb)
  have R_2 := Hd (R_2.out.below hb)
  have R_4 := Hd (R_4.out.below hb)
  have R_5 := Hd (R_5.out.below hb)
  have HT := Hd (HT.out.below hb)
  have HBW := Hd (belowTo HBW.out hb)
  have R_8 := Hd r8
  clear hb r8
  go_wp2_with fail
  refine (O_n.out x9).mono ?_
  rintro e x10 ⟨A9, c9, rfl, r9, hb⟩
  have V_3 := Hd (V_3.out.below hb)
  have V_6 := Hd (V_6.out.below hb)
  have V_7 := Hd (V_7.out.below hb)
  have R_1 := Hd (R_1.out.below hb)
  have R_2 := Hd (R_2.out.below hb)
  have R_4 := Hd (R_4.out.below hb)
  have R_5 := Hd (R_5.out.below hb)
  have R_8 := Hd (R_8.out.below hb)
  have HT := Hd (HT.out.below hb)
  have HBW := Hd (belowTo HBW.out hb)
  have R_9 := Hd r9
  clear hb r9
  go_wp2_with fail
  refine (quorem_nought a n n A8 A9 c8 c9 F_a.out F_n.out x10 R_8.out R_9.out HN.out HN.out).mono ?_
  rintro e x11 ⟨A10, c10, A11, c11, rfl, r10, r11, hb⟩
  have V_3 := Hd (V_3.out.below hb)
  have V_6 := Hd (V_6.out.below hb)
  have V_7 := Hd (V_7.out.below hb)
  have R_1 := Hd (R_1.out.below hb)
  have R_2 := Hd (R_2.out.below hb)
  have R_4 := Hd (R_4.out.below hb)
  have R_5 := Hd (R_5.out.below hb)
  have R_8 := Hd (R_8.out.below hb)
  have R_9 := Hd (R_9.out.below hb)
  have HT := Hd (HT.out.below hb)
  have HBW := Hd (belowTo HBW.out hb)
  have R_10 := Hd r10
  have R_11 := Hd r11
  clear hb r10 r11
  go_upto_region 4 with fail
  have ha := (((Below.refl x11.heap.size x11).alloc (Nat.le_refl _) (.cells #[.bool (decide (n < 0)), .slice A10 (natL n.natAbs).length c10] 24)).alloc (by simp) (.cells #[.bool (decide (n < 0)), .slice A11 (natL n.natAbs).length c11] 24))
  have p_10 := ((Pair.new x11 24 (.bool (decide (n < 0))) (.slice A10 (natL n.natAbs).length c10)).alloc (.cells #[.bool (decide (n < 0)), .slice A11 (natL n.natAbs).length c11] 24))
  have p_11 := (Pair.new (x11.alloc (.cells #[.bool (decide (n < 0)), .slice A10 (natL n.natAbs).length c10] 24)) 24 (.bool (decide (n < 0))) (.slice A11 (natL n.natAbs).length c11))
  simp only [World.size_alloc] at p_11
  obtain ⟨y12, E⟩ : ∃ W, W = ((x11.alloc (.cells #[.bool (decide (n < 0)), .slice A10 (natL n.natAbs).length c10] 24)).alloc (.cells #[.bool (decide (n < 0)), .slice A11 (natL n.natAbs).length c11] 24)) := ⟨_, rfl⟩
  rw [← E] at ha p_10 p_11 ⊢
  have V_10 := Hd (NV.of R_10.out ha p_10)
  have V_11 := Hd (NV.of R_11.out ha p_11)
  have V_3 := Hd (V_3.out.below ha)
  have V_6 := Hd (V_6.out.below ha)
  have V_7 := Hd (V_7.out.below ha)
  have R_1 := Hd (R_1.out.below ha)
  have R_2 := Hd (R_2.out.below ha)
  have R_4 := Hd (R_4.out.below ha)
  have R_5 := Hd (R_5.out.below ha)
  have R_8 := Hd (R_8.out.below ha)
  have R_9 := Hd (R_9.out.below ha)
  have HT := Hd (HT.out.below ha)
  have HBW := Hd (belowTo HBW.out ha)
  obtain ⟨g12, hg⟩ : ∃ g, g = x11.heap.size := ⟨_, rfl⟩
  rw [← hg] at V_10 V_11 ⊢
  clear E ha hg p_10 p_11
  obtain ⟨l_3, a_3, b_3, -, -⟩ := V_3.out.pair.facts
  go_wp2_with fail
  refine (text_z m A3 c3 tx F_m.out y12 V_3.out.raw HT.out HTX.out).mono ?_
  rintro e x13 ⟨rfl, hb⟩
  clear l_3 a_3 b_3
  have V_3 := Hd (V_3.out.below hb)
  have V_6 := Hd (V_6.out.below hb)
  have V_7 := Hd (V_7.out.below hb)
  have V_10 := Hd (V_10.out.below hb)
  have V_11 := Hd (V_11.out.below hb)
  have R_1 := Hd (R_1.out.below hb)
  have R_2 := Hd (R_2.out.below hb)
  have R_4 := Hd (R_4.out.below hb)
  have R_5 := Hd (R_5.out.below hb)
  have R_8 := Hd (R_8.out.below hb)
  have R_9 := Hd (R_9.out.below hb)
  have HT := Hd (HT.out.below hb)
  have HBW := Hd (belowTo HBW.out hb)
  clear hb
  clear R_1 R_2 R_4 R_5 R_8 R_9 V_3 V_10 V_11
  go_upto_region 5 with fail
  obtain ⟨W, hW⟩ : ∃ W, W = x13 := ⟨_, rfl⟩
  rw [← hW] at V_6 V_7 HBW ⊢
  clear hW
  have htx := h_tx2.out
  refine wp_region_free [.val (.int .i64 0) [], .val (.bool true) [], .val (.bool true) [], .val (.int .i64 0) [], .val (.bool true) [], .val (.bool true) [], .val (.bool true) [], .val (.int .i64 3) [], .val (.bool true) [], .val (.bool true) [], .val (.bool true) [], .val (.int .i64 0) [], .val (.bool true) [], .val (.bool true) [], .val (.bool true) [], .val (.string tx) [], .val (.bool true) [], .val (.bool true) [], .val (.bool true) [], .val (.agg #[.bool (decide (u < 0)), .slice A6 (natL u.natAbs).length c6]) [], .any false (fun u0 V => IntAt V u0 u) [], .val (.int .i64 0) [20], .val (.bool true) [], .val (.bool true) [], .val (.bool true) [], .val (.agg #[.bool (decide (v < 0)), .slice A7 (natL v.natAbs).length c7]) [], .any false (fun u0 V => IntAt V u0 v) [], .val (.int .i64 0) [26], .val (.bool true) [], .val (.bool true) [], .val (.bool true) [], .val (.agg #[.bool (decide (u < 0)), .slice A6 (natL u.natAbs).length c6]) [], .val (.agg #[.bool (decide (v < 0)), .slice A7 (natL v.natAbs).length c7]) [], .val (.int .i64 (-1)) [], .val (.bool true) [], .val (.bool true) [], .val (.bool true) []] W.heap.size W [] (fun _ _ => False) _ mixedOrders2 (Nat.le_refl _) (Below.refl _ _) (KeptV.refl _ _ _) rfl (by kernel_rfl) (by kernel_rfl) (by kernel_rfl) (by kernel_rfl) (by kernel_rfl) (by kernel_rfl) (by kernel_rfl) (by kernel_rfl) rfl (by simp [oldsF]) ?_ ?_ ?_ ?_
  · simp only [StableF, and_true]
    exact ⟨fun u0 V V' h k => h.keptNone k, fun u0 V V' h k => h.keptNone k⟩
  · simp only [OldsF]
  · simp (maxSteps := 4000000) [StepsF, DepF, freeAct, fill, pairs]
    repeat' (first | apply And.intro | (intro (u0 : Value)))
    all_goals first
    | (intro V hV hK
       obtain ⟨-, a6, b6, -, -⟩ := (V_6.out.below hV).pair.facts
       obtain ⟨-, a7, b7, -, -⟩ := (V_7.out.below hV).pair.facts
       have r6 := Hd (V_6.out.below hV).raw
       have r7 := Hd (V_7.out.below hV).raw
       clear hV hK
       go_simp
       first
       | exact Below.refl _ _
       | ((with_reducible refine (O_u.out V).mono ?_); rintro e w' ⟨A', c', rfl, hr, hb⟩; exact ⟨⟨A', c', rfl, hr⟩, hb⟩)
       | ((with_reducible refine (O_v.out V).mono ?_); rintro e w' ⟨A', c', rfl, hr, hb⟩; exact ⟨⟨A', c', rfl, hr⟩, hb⟩)
       | ((with_reducible refine (cmp_z u v A6 A7 c6 c7 F_u.out F_v.out V r6.out r7.out (-1) HC3.out).mono ?_); rintro e w' ⟨rfl, hb⟩; exact ⟨rfl, hb⟩))
    | (intro V hV hK hu
       obtain ⟨A', c', rfl, hr⟩ := hu.form
       have r6 := Hd (V_6.out.below hV).raw
       have r7 := Hd (V_7.out.below hV).raw
       have r' := Hd hr
       clear hV hK hu hr
       go_simp
       first
       | ((with_reducible refine (cmp_z u u A6 A' c6 c' F_u.out F_u.out V r6.out r'.out 0 HC1.out).mono ?_); rintro e w' ⟨rfl, hb⟩; exact ⟨rfl, hb⟩)
       | ((with_reducible refine (cmp_z v v A7 A' c7 c' F_v.out F_v.out V r7.out r'.out 0 HC2.out).mono ?_); rintro e w' ⟨rfl, hb⟩; exact ⟨rfl, hb⟩))
  · simp [EndF, FactsF, freeAct, fill, pairs]
    intro u1 u2 V hV hK h1 h2 _ _ _
    have HF := Hd (belowTo HBW.out hV)
    clear hV hK h1 h2
    go_wp2_with fail
    go_ret
    exact ⟨rfl, HF.out⟩
end Go.Proofs.YtkncbenhfcpgkaaDoor
