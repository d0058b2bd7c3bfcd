/- Several texts in one: Digits, FText, FLaw, FOps, Kp. -/
import Derived.Test.YtmcnmoljliggfaaGreatDoorBt21
import Derived.Lib.AppendIntMem
import Derived.Laws.Concat
import Derived.Test.YtmcnmoljliggfaaGreatDoorBt20
set_option maxRecDepth 100000
set_option maxHeartbeats 8000000
/- Digits of package exact: the decimal text of a whole number. -/
namespace Go.Proofs.YtmcnmoljliggfaaGreatDoor
open Go.RowKit

abbrev powTab (w : World) : Prop := Lib.TabIs Tryz.prog w "internal/strconv.uint64pow10" .u64 Lib.pow10Tab
theorem stringInfo : (Tryz.prog.info? 9).map (fun i => (i.zero, i.size, i.bytes)) = some (some (.string ⟨#[]⟩), 1, 16) := by kernel_rfl
def strs (cs : List Nat) : List Value := cs.map fun c => Value.string ⟨(Lib.decDigits c).toArray⟩
structure Dg (w wr : World) (n1 : Bool) (S : Value) (V v : Nat) (cs : List Nat) (pv : Value) (g cap : Nat) : Prop where
  low : Below w.heap.size w wr
  front : Front wr g cap (natL v)
  hg : w.heap.size + 1 ≤ g
  parts : wr.ownsRow (w.heap.size + 1) 9 1 pv cs.length (strs cs)
  px : Pair wr w.heap.size 25 (.bool n1) S
  all : chunks V = cs ++ chunks v
  big : v * 2 ^ (29 * cs.length) ≤ V
  few : cs.length ≤ 2000001
theorem Dg.count {w wr : World} {n1 : Bool} {S : Value} {V v L : Nat} {cs : List Nat} {pv : Value} {g cap : Nat} (h : Dg w wr n1 S V v cs pv g cap) (hv : 0 < v) (hV : (natL V).length ≤ L) : cs.length ≤ 2 * L := by
  have h1 : V < 2 ^ (32 * L) := by
    have := natL_length_le.1 hV
    rw [show 4294967296 = 2 ^ 32 by decide, ← Nat.pow_mul] at this
    exact this
  have h2 : 2 ^ (29 * cs.length) ≤ V := Nat.le_trans (Nat.le_mul_of_pos_left _ hv) h.big
  have h3 : 2 ^ (29 * cs.length) < 2 ^ (32 * L) := by omega
  have := (Nat.pow_lt_pow_iff_right (by omega)).1 h3
  omega
theorem big_next {v n V : Nat} (h : v * 2 ^ (29 * n) ≤ V) : v / 1000000000 * 2 ^ (29 * (n + 1)) ≤ V := by
  rw [Nat.mul_add, Nat.mul_one, Nat.pow_add]
  generalize 2 ^ (29 * n) = p at *
  have h1 : v / 1000000000 * 2 ^ 29 ≤ v := by
    have : (2 : Nat) ^ 29 ≤ 1000000000 := by decide
    calc v / 1000000000 * 2 ^ 29 ≤ v / 1000000000 * 1000000000 := Nat.mul_le_mul_left _ this
      _ ≤ v := Nat.div_mul_le_self _ _
  calc v / 1000000000 * (p * 2 ^ 29) = v / 1000000000 * 2 ^ 29 * p := by rw [Nat.mul_comm p, Nat.mul_assoc]
    _ ≤ v * p := Nat.mul_le_mul_right _ h1
    _ ≤ V := h

theorem digits_more (n1 : Bool) (A : Option Addr) (c : Nat) (xs : List Nat) (hne : xs ≠ []) (hcx : Canon xs) (hl : xs.length ≤ 1000000) (z : List UInt8) (HZ : Hid (z = if n1 then 45 :: Lib.decDigits (val xs) else Lib.decDigits (val xs))) (w : World) (h : Raw w A c xs) (htab : powTab w) :
    Calls Tryz.prog 106 #[.agg #[.bool n1, .slice A xs.length c]] w fun e w' => e = .returned (.string ⟨z.toArray⟩) ∧ Below w.heap.size w w' := by
  obtain ⟨i0, hi, hz0, hz1, hz2⟩ := info_parts stringInfo
  have px := Pair.new w 25 (.bool n1) (.slice A xs.length c)
  have b0 := (Below.refl w.heap.size w).alloc (Nat.le_refl _) (.cells #[.bool n1, .slice A xs.length c] 25)
  have rx := h.alloc (.cells #[.bool n1, .slice A xs.length c] 25)
  have HT := Hd (Lib.tabBelow_of_tabIs htab)
  obtain ⟨V, hV⟩ : ∃ V, V = val xs := ⟨_, rfl⟩
  have eV : natL V = xs := by rw [hV]; exact natL_val h.limbs hcx
  have hpV : 0 < V := by
    rcases Nat.eq_zero_or_pos V with h0 | h0
    · rw [h0, natL_zero] at eV; exact absurd eV.symm hne
    · exact h0
  have HX := Hd h.limbs
  rw [← hV] at HZ
  clear h htab hV
  go_enter Tryz.func106, Tryz.ntmps106
  obtain ⟨W, E⟩ : ∃ W, W = w.alloc (.cells #[.bool n1, .slice A xs.length c] 25) := ⟨_, rfl⟩
  have hsW : W.heap.size = w.heap.size + 1 := by rw [E]; simp
  have C1 := Hd (slices_Clone A c xs (by omega) W (by rw [E]; exact rx))
  go_wp2_with fail
  rw [← E] at px b0 ⊢
  clear E rx
  refine C1.out.mono ?_
  rintro e w1 ⟨v, rfl, hv, hb1⟩
  obtain ⟨g, cap, rfl, hg, hcap, hf⟩ := hv.front hne
  have H0 := Hd (show Dg w w1 n1 (.slice A xs.length c) V V [] (.slice none 0 0) g cap from
    ⟨belowTo b0 hb1, by rw [eV]; exact hf, by omega, World.ownsRow_nil _ _ _ _, px.below hb1, rfl, by simp, by simp⟩)
  have HV := Hd (show (natL V).length ≤ 1000000 by rw [eV]; exact hl)
  have HC := Hd hcap
  rw [← eV] at *
  clear px b0 hb1 hv hf hg C1 eV hsW hcap
  go_wp2_with fail
  go_loopg [3, 4] (V) (fun v p l wr => ∃ AP cP cs, p = .slice AP cs.length cP ∧ l = .slice (some ⟨g, 0, none⟩) (natL v).length cap ∧ Hid (Dg w wr n1 (.slice A (natL V).length c) V v cs (.slice AP cs.length cP) g cap))
  case atStart => exact ⟨none, 0, [], rfl, rfl, H0⟩
  case round =>
    clear H0
    obtain ⟨AP, cP, cs, rfl, rfl, HR⟩ := hrel
    rcases Nat.eq_zero_or_pos gk with h0 | h0
    · subst h0
      have hall := HR.out.all
      rw [chunks_nil, List.append_nil] at hall
      have hn0 : (natL 0).length = 0 := by simp [natL_zero]
      rw [hn0]
      have hcs : cs ≠ [] := fun e => by
        rw [e, chunks_cons (by omega)] at hall
        cases hall
      have hd : ((cs.length : Int) == 0) = false := by
        have : cs.length ≠ 0 := fun e => hcs (List.eq_nil_of_length_eq_zero e)
        simp; omega
      have HALL := Hd hall
      have HCS := Hd hcs
      clear hn0 hall hcs
      have hlt : ∀ c ∈ cs, c < 1000000000 := fun c hc => chunks_lt V c (by rw [HALL.out]; exact hc)
      have hcnt := HR.out.few
      have HLT := Hd hlt
      obtain ⟨l1, x0, x1, -, -⟩ := (HR.out.px.alloc (.cells #[.pointer none, .slice none 0 0] 141)).facts
      obtain ⟨pre, hpre⟩ : ∃ pre : List UInt8, pre = if n1 then [45] else [] := ⟨_, rfl⟩
      have HP := Hd (show z = pre ++ chunkText cs by
        rw [HZ.out, hpre, ← HALL.out, chunk_text V (by omega)]; cases n1 <;> simp)
      have HPL := Hd (show pre.length ≤ 1 by rw [hpre]; cases n1 <;> simp)
      have HLEN := Hd (show ∀ k, (pre ++ chunkText (cs.drop k)).length ≤ 20000000 from fun k => by
        have h1 := chunkText_length (cs.drop k) (fun c hc => hlt c (List.mem_of_mem_drop hc))
        have h2 := HPL.out
        have h3 : (cs.drop k).length ≤ cs.length := by simp
        rw [List.length_append]; omega)
      have HBf := Hd (Lib.fresh_isBuilder 141 5 wr)
      have HBw := Hd ((Below.refl wr.heap.size wr).alloc (Nat.le_refl _) (.cells #[.pointer none, .slice none 0 0] 141))
      have HRD := Hd (Reads.of_own HR.out.parts)
      have HLW := Hd HR.out.low
      clear hlt HZ HT HX HR
      cases n1
      case' false =>
        simp at hpre
        go_wp2_with fail
        have H2 := Hd (show Bld wr.heap.size wr.heap.size (Lib.byteCells (pre ++ chunkText (cs.drop cs.length))) (wr.alloc (.cells #[.pointer none, .slice none 0 0] 141)) ∧ Below wr.heap.size wr (wr.alloc (.cells #[.pointer none, .slice none 0 0] 141)) from ⟨by rw [hpre, List.drop_length]; exact HBf.out, HBw.out⟩)
        clear HBf HBw l1 x0 x1 hpre
        obtain ⟨wz, hwz⟩ : ∃ wz : World, wz = wr.alloc (.cells #[.pointer none, .slice none 0 0] 141) := ⟨_, rfl⟩
        rw [← hwz] at H2 ⊢
        clear hwz
      case' true =>
        have hbwx := HBf.out
        have C3 := Hd (write_byte wr.heap.size wr.heap.size [] 45 _ HBf.out (by simp) (by simp))
        go_wp2_with fail
        refine C3.out.mono ?_
        rintro e wz ⟨rfl, hwb, hbw⟩
        have H2 := Hd (show Bld wr.heap.size wr.heap.size (Lib.byteCells (pre ++ chunkText (cs.drop cs.length))) wz ∧ Below wr.heap.size wr wz from ⟨by rw [hpre, List.drop_length]; exact hwb, HBw.out.trans hbw⟩)
        clear HBf HBw l1 x0 x1 hpre hwb hbw C3 hbwx
        go_wp2_with fail
      all_goals
        obtain ⟨b, hb⟩ : ∃ b, b = wr.heap.size := ⟨_, rfl⟩
        rw [← hb] at H2 HRD ⊢
        obtain ⟨wq, hwq⟩ : ∃ wq : World, wq = wr := ⟨_, rfl⟩
        rw [← hwq] at H2 HRD HLW hb
        clear hwq
        have hlb : ∀ W', Below b wq W' → b ≤ W'.heap.size := fun W' h => by have := h.size; omega
        have HLB := Hd hlb
        have HLC := Hd (show ∀ W', Below b wq W' → Below w.heap.size w W' from fun W' h => belowTo HLW.out (by rw [← hb]; exact h))
        clear hb hlb HLW
        go_loopw [6] (fun s wl => ∃ k : Nat, ∃ i : Int, s = .int .i64 i ∧ i = (k : Int) - 1 ∧ k ≤ cs.length ∧ Hid (Bld b b (Lib.byteCells (pre ++ chunkText (cs.drop k))) wl ∧ Below b wq wl)) (fun s _ => (intOf s + 1).toNat)
        case atStart => exact ⟨cs.length, _, rfl, by first | rfl | omega, Nat.le_refl _, H2⟩
        case round =>
          clear H2
          obtain ⟨k, i, rfl, hik, hk, HB⟩ := hrel
          rcases Nat.eq_zero_or_pos k with h0 | h0
          · subst h0
            have hi0 : decide (0 ≤ i) = false := by simp; omega
            have hbb := HB.out.1
            rw [List.drop_zero, ← HP.out] at hbb
            have C4 := Hd (Tryz.Builder_String_any b b z wr hbb (HLB.out _ HB.out.2))
            clear hik hk
            go_wp2_with fail
            refine C4.out.mono ?_
            rintro e wf ⟨rfl, hbf⟩
            have HFB := Hd (HLC.out _ (HB.out.2.trans hbf))
            clear hbf hbb
            go_wp2_with fail
            go_ret
            exact ⟨rfl, HFB.out⟩
          · obtain ⟨m, rfl⟩ : ∃ m, k = m + 1 := ⟨k - 1, by omega⟩
            have him : i = (m : Int) := by omega
            subst him
            have hm : m < cs.length := by omega
            have hmi : (m : Int) < (cs.length : Int) := by omega
            have hm0 : (0 : Int) ≤ (m : Int) := by omega
            obtain ⟨ad, u, rfl, had, hu, hcell⟩ := (HRD.out.below HB.out.2).at_ hm
            have hu2 : u = .string ⟨(Lib.decDigits cs[m]).toArray⟩ := by
              have : (strs cs)[m]? = some (.string ⟨(Lib.decDigits cs[m]).toArray⟩) := by simp [strs, hm]
              rw [this] at hu
              exact (Option.some.inj hu).symm
            subst hu2
            obtain ⟨S, hS⟩ : ∃ S : ByteArray, S = ⟨(Lib.decDigits cs[m]).toArray⟩ := ⟨_, rfl⟩
            rw [← hS] at hcell
            have hS9 : S.size ≤ 9 := by rw [hS]; exact dec_nine_len (HLT.out _ (List.getElem_mem hm))
            have HS := Hd hS
            have HCELL := Hd (show ∀ W', Below b wq W' → W'.cell? (ad.add m) = some (.string S) from fun W' h => by
              obtain ⟨ad', u, e, -, h2, h3⟩ := (HRD.out.below h).at_ hm
              injection e with e
              subst e
              have : (strs cs)[m]? = some (.string ⟨(Lib.decDigits cs[m]).toArray⟩) := by simp [strs, hm]
              rw [this] at h2
              rw [h3, ← Option.some.inj h2, hS])
            clear hS hu hik hk h0
            by_cases hlast : m + 1 < cs.length
            · have hd : decide ((m : Int) < (cs.length : Int) - 1) = true := by simp; omega
              have C5 := Hd (write_string b b _ (ByteArray.extract ⟨#[48, 48, 48, 48, 48, 48, 48, 48, 48]⟩ S.size 9) wr HB.out.1 (by
                have := HLEN.out (m + 1)
                have h9 : (ByteArray.extract ⟨#[48, 48, 48, 48, 48, 48, 48, 48, 48]⟩ S.size 9).size ≤ 9 := by
                  rw [Lib.extract_eq]
                  show ((List.drop S.size _).take (9 - S.size)).toArray.size ≤ 9
                  rw [List.size_toArray]
                  exact Nat.le_trans (List.length_take_le _ _) (by omega)
                rw [Lib.byteCells_length]; omega) (HLB.out _ HB.out.2))
              have HM := Hd hlast
              clear hlast
              go_wp2_with fail
              refine C5.out.mono ?_
              rintro e w2 ⟨rfl, h2, b2⟩
              have hb2 := HB.out.2.trans b2
              have hcell2 := HCELL.out _ hb2
              have h2' : Bld b b (Lib.byteCells (pre ++ chunkText (cs.drop (m + 1)) ++ List.replicate (9 - S.size) 48)) w2 := by
                have e : Lib.strCells (ByteArray.extract ⟨#[48, 48, 48, 48, 48, 48, 48, 48, 48]⟩ S.size 9) = Lib.byteCells (List.replicate (9 - S.size) 48) := by
                  rw [Lib.extract_eq, Lib.strCells_toArray]
                  show Lib.byteCells (((List.replicate 9 48).drop S.size).take (9 - S.size)) = _
                  rw [List.drop_replicate, List.take_replicate, Nat.min_self]
                rw [e] at h2
                simpa [Lib.byteCells] using h2
              have C6 := Hd (write_string b b _ S w2 h2' (by
                have := HLEN.out (m + 1)
                rw [Lib.byteCells_length, List.length_append, List.length_replicate]; omega) (HLB.out _ hb2))
              have HB2 := Hd hb2
              clear h2 b2 hb2 h2' hcell C5
              go_wp2_with fail
              refine C6.out.mono ?_
              rintro e w3 ⟨rfl, h3, b3⟩
              have HN := Hd (show Bld b b (Lib.byteCells (pre ++ chunkText (cs.drop m))) w3 ∧ Below b wq w3 from ⟨by
                rw [chunk_next HM.out, pad9 _ (HLT.out _ (List.getElem_mem hm))]
                rw [HS.out] at h3
                have e : (ByteArray.size ⟨(Lib.decDigits cs[m]).toArray⟩) = (Lib.decDigits cs[m]).length := by simp [ByteArray.size]
                rw [e, Lib.strCells_toArray] at h3
                simpa [Lib.byteCells] using h3, HB2.out.trans b3⟩)
              clear h3 b3 C6 hcell2
              go_wp2_with fail
              go_roundw
              case rel => exact ⟨m, (m : Int) - 1, by go_num, rfl, by omega, HN⟩
              case measure => simp [intOf]
            · have hd : decide ((m : Int) < (cs.length : Int) - 1) = false := by simp; omega
              have C5 := Hd (write_string b b _ S wr HB.out.1 (by
                have := HLEN.out (m + 1)
                rw [Lib.byteCells_length]; omega) (HLB.out _ HB.out.2))
              have HM := Hd (show m + 1 = cs.length by omega)
              clear hlast
              go_wp2_with fail
              refine C5.out.mono ?_
              rintro e w3 ⟨rfl, h3, b3⟩
              have HN := Hd (show Bld b b (Lib.byteCells (pre ++ chunkText (cs.drop m))) w3 ∧ Below b wq w3 from ⟨by
                rw [chunk_top HM.out]
                rw [HS.out, Lib.strCells_toArray, HM.out, List.drop_length] at h3
                simpa [Lib.byteCells, chunkText] using h3, HB.out.2.trans b3⟩)
              clear h3 b3 C5
              go_wp2_with fail
              go_roundw
              case rel => exact ⟨m, (m : Int) - 1, by go_num, rfl, by omega, HN⟩
              case measure => simp [intOf]
    · have hlen : decide (0 < (natL gk).length) = true := decide_eq_true (by
        rcases Nat.eq_zero_or_pos (natL gk).length with e | e
        · have := natL_eq_nil.1 (List.eq_nil_of_length_eq_zero e)
          omega
        · exact e)
      have hcnt := HR.out.count h0 HV.out
      have C1 := Hd (exact_short g cap cap 1000000000 (natL gk) (by omega) (by omega) (limbs_natL _) (by have := HV.out; have := natL_mono (show gk ≤ V from Nat.le_trans (Nat.le_mul_of_pos_right _ (Nat.two_pow_pos _)) HR.out.big); omega) wr HR.out.front)
      rw [val_natL] at C1
      go_wp2_with fail
      refine C1.out.mono ?_
      rintro e w2 ⟨rfl, zs', hz1', hz2', hz3', hf', hgr⟩
      have hlow := HR.out.low.trans ((grown_below hgr (Nat.le_trans (Nat.le_succ _) HR.out.hg) HR.out.low.size))
      have hmod : gk % 1000000000 < 1000000000 := Nat.mod_lt _ (by omega)
      have C2 := Hd (Tryz.strconv_Itoa ((gk % 1000000000 : Nat) : Int) (by omega) (by omega) w2 (HT.out _ hlow))
      rw [Lib.itoa_nonneg] at C2
      have hne1 : (Value.slice AP cs.length cP).ownBlock ≠ some g := by
        obtain ⟨rest, -, hbk⟩ := HR.out.front.ex
        exact own_blk_ne HR.out.parts hbk (by decide)
      have HOW := Hd (HR.out.parts.kept hgr (Or.inr hne1))
      have HF2 := Hd hf'
      have HLOW := Hd hlow
      have HPX := Hd (HR.out.px.grown hgr (by
        intro e
        injection e with e
        have := HR.out.hg
        omega))
      have HZ' := Hd (show zs'.length = (natL gk).length ∧ Limbs zs' ∧ val zs' = gk / 1000000000 from ⟨hz1', hz2', hz3'⟩)
      have HALL := Hd (And.intro HR.out.all (And.intro HR.out.big HR.out.hg))
      have HNE := Hd hne1
      have HCNT := Hd hcnt
      have HK0 := Hd h0
      clear hz1' hz2' hz3' hf' hgr hlow hne1 C1 HR hcnt hlen h0
      go_wp2_with fail
      refine C2.out.mono ?_
      rintro e w3' ⟨rfl, k', os', hw3⟩
      have hb3 : Below w2.heap.size w2 w3' := by rw [hw3]; exact Lib.below_grow _ _ (Nat.le_refl _) _ _
      have how := own_below HOW.out hb3
      have HF3 := Hd (HF2.out.below hb3)
      have HPX3 := Hd (HPX.out.below hb3)
      have HL3 := Hd (belowTo HLOW.out hb3)
      obtain ⟨S, hS⟩ : ∃ S : ByteArray, S = ⟨(Lib.decDigits (gk % 1000000000)).toArray⟩ := ⟨_, rfl⟩
      rw [← hS]
      have HS := Hd hS
      have hs3 := HL3.out.size
      have hs4 : w.heap.size + 1 ≤ w3'.heap.size := by have := HF3.out.lt; have := HALL.out.2.2; omega
      have hcn := HCNT.out
      clear hw3 hb3 hS HF2 HPX HLOW HOW C2
      go_wp2_with (
        at_builtin
        refine wpList_append_any _ rfl (.tmp 15) (.tmp 20) _ rfl (w.heap.size + 1) 9 i0 _ 1 16 Tryz.underlying135 hi hz0 hz1 hz2 rfl (by omega) (.slice AP cs.length cP) cs.length (strs cs) rfl (how.alloc _) (w3'.heap.size + 1) (some ⟨w3'.heap.size, 0, none⟩) 1 1 [.string S] rfl (Reads.new1 w3' _ 1 _ rfl) (by intro x hx; simp at hx; subst hx; rfl) (by unfold maxLen; omega) (by omega) (by simp; omega) ?_
        intro v' w4 ho hg4 hat
        obtain ⟨A5, c5, rfl⟩ := own_form (by omega) ho
        have HF4 := Hd ((HF3.out.alloc (.cells #[.string S] 9)).stays hg4 (fun e => HNE.out e.symm))
        have HPX4 := Hd ((HPX3.out.alloc (.cells #[.string S] 9)).grown hg4 (fun e => by
          have := (how.lt _ e.symm).1
          omega))
        have HL4 := Hd ((HL3.out.alloc (by omega) (.cells #[.string S] 9)).grown hg4 (by simp; omega) (fun k hk => by have := (how.lt k hk).1; omega))
        have HO4 := Hd ho
        clear ho hg4 hat)
      have C3 := exact_trim (some ⟨g, 0, none⟩) cap zs' HZ'.out.2.1 HF4.out.fits HC.out w4.heap.size w4 HF4.out.reads
      rw [HZ'.out.1, HZ'.out.2.2] at C3
      have H3 := Hd C3
      have HFN := Hd (show Front w4 g cap (natL (gk / 1000000000)) from by
        have := HF4.out.cut (natL (val zs')).length
        rw [← natL_take HZ'.out.2.1, HZ'.out.2.2] at this
        exact this)
      have HN := Hd (show Dg w w4 n1 (.slice A (natL V).length c) V (gk / 1000000000) (cs ++ [gk % 1000000000]) (.slice A5 (cs.length + 1) c5) g cap from
        ⟨HL4.out, HFN.out, HALL.out.2.2, by
          have e : strs (cs ++ [gk % 1000000000]) = strs cs ++ [.string S] := by rw [HS.out]; simp [strs]
          rw [e, List.length_append, List.length_singleton]; exact HO4.out, HPX4.out, by
          rw [HALL.out.1, chunks_cons (by have := HK0.out; omega)]; simp, by
          rw [List.length_append, List.length_singleton]; exact big_next HALL.out.2.1, by
          rw [List.length_append, List.length_singleton]; have := HCNT.out; omega⟩)
      have HM := Hd (show gk / 1000000000 < gk from Nat.div_lt_self HK0.out (by omega))
      clear C3 HF4 HPX4 HL4 HO4 HFN HALL HS HZ' how hs3 hs4 hcn HNE HF3 HPX3 HL3 hmod
      go_wp2_with fail
      refine H3.out.mono ?_
      rintro e w5 ⟨rfl, rfl⟩
      go_wp2_with fail
      go_roundg (gk / 1000000000)
      case measure => exact HM.out
      case rel => exact ⟨A5, c5, cs ++ [gk % 1000000000], by simp, rfl, by simpa using HN⟩

theorem digits_nought (n1 : Bool) (A : Option Addr) (c : Nat) (w : World) (h : Raw w A c []) :
    Calls Tryz.prog 106 #[.agg #[.bool n1, .slice A ([] : List Nat).length c]] w fun e w' => e = .returned (.string ⟨#[48]⟩) ∧ Below w.heap.size w w' := by
  have b0 := (Below.refl w.heap.size w).alloc (Nat.le_refl _) (.cells #[.bool n1, .slice A ([] : List Nat).length c] 25)
  have rx := h.alloc (.cells #[.bool n1, .slice A ([] : List Nat).length c] 25)
  clear h
  go_enter Tryz.func106, Tryz.ntmps106
  have C1 := Hd (slices_Clone A c [] (by simp) _ rx)
  have HB := Hd b0
  clear rx b0
  go_wp2_with fail
  refine C1.out.mono ?_
  rintro e w1 ⟨v, rfl, hv, hb1⟩
  obtain ⟨A1, c1, rfl, -⟩ := hv.form
  have HF := Hd (belowTo HB.out hb1)
  clear hv hb1 C1
  go_wp2_with fail
  go_loop [3, 4] (fun p l => p = .slice none 0 0 ∧ l = .slice A1 0 c1) (fun _ _ => 0)
  case atStart => exact ⟨rfl, rfl⟩
  case round =>
    obtain ⟨rfl, rfl⟩ := hrel
    go_wp2_with fail
    go_ret
    exact ⟨rfl, HF.out⟩
theorem exact_Digits (n1 : Bool) (A : Option Addr) (c : Nat) (xs : List Nat) (hcx : Canon xs) (hl : xs.length ≤ 1000000) (w : World) (h : Raw w A c xs) (htab : powTab w) :
    Calls Tryz.prog 106 #[.agg #[.bool n1, .slice A xs.length c]] w fun e w' => e = .returned (.string ⟨(Lib.itoa (ival n1 xs)).toArray⟩) ∧ Below w.heap.size w w' := by
  by_cases hx : xs = []
  · subst hx
    have e : Lib.itoa (ival n1 []) = [48] := by
      have : ival n1 [] = ((0 : Nat) : Int) := by unfold ival; cases n1 <;> rfl
      rw [this, Lib.itoa_nonneg, Lib.decDigits_one (by omega)]; rfl
    rw [e]
    exact digits_nought n1 A c w h
  · refine digits_more n1 A c xs hx hcx hl _ (Hd ?_) w h htab
    have hp : 0 < val xs := by
      rcases Nat.eq_zero_or_pos (val xs) with h0 | h0
      · have := natL_val h.limbs hcx
        rw [h0, natL_zero] at this
        exact absurd this.symm hx
      · exact h0
    unfold ival
    cases n1
    · simp [Lib.itoa_nonneg]
    · simp only [if_true]
      rw [Lib.itoa_neg _ hp]
/- Digits of package ratio; Text and Sign of package frac. (Written by wip/frac/gentext.py.) -/

theorem powTab.below2 {w w' : World} (h : powTab w) (hb : Below w.heap.size w w') : powTab w' := Lib.tabBelow_of_tabIs h w' hb
theorem dec_fit_any (k : Nat) (hk : 0 < k) {x : Nat} (h : (natL x).length ≤ k) : (Lib.decDigits x).length ≤ 32 * k := by
  refine dec_short (32 * k) x (by omega) ?_
  have h1 : x < 2 ^ (32 * k) := by
    have := natL_length_le.1 h
    rw [show 4294967296 = 2 ^ 32 by decide, ← Nat.pow_mul] at this
    exact this
  exact Nat.lt_of_lt_of_le h1 (Nat.pow_le_pow_left (by decide) _)
theorem dec_fit {x : Nat} (h : (natL x).length ≤ 2048) : (Lib.decDigits x).length ≤ 65536 := dec_fit_any 2048 (by omega) h
theorem itoa_fit {x : Int} (h : Fit x) : (Lib.itoa x).length ≤ 65537 := by
  have := dec_fit (x := x.natAbs) h
  unfold Lib.itoa
  split
  · simp; omega
  · rw [show x.toNat = x.natAbs by omega]; omega
def fracText (n d : Int) : List UInt8 := if d = 1 then Lib.itoa n else Lib.itoa n ++ 47 :: Lib.itoa d

theorem ratio_Digits_one (n d : Int) (A B : Option Addr) (c e0 : Nat) (w : World) (h_x : Raw w A c (natL n.natAbs)) (k_x : Raw w B e0 (natL d.natAbs)) (htab : powTab w) (hn : Fit n) (hd : Fit d) (hd1 : d = 1) :
    Calls Tryz.prog 92 #[.agg #[.bool (decide (n < 0)), .slice A (natL n.natAbs).length c, .bool (decide (d < 0)), .slice B (natL d.natAbs).length e0]] w fun e w' => e = .returned (.string ⟨(fracText n d).toArray⟩) ∧ Below w.heap.size w w' := by
  have HTW := Hd htab
  obtain ⟨one, hone⟩ : ∃ k : Int, k = 1 := ⟨_, rfl⟩
  obtain ⟨k, hk⟩ : ∃ k : Int, k = cmpz d one := ⟨_, rfl⟩
  have H1 := Hd hone
  have HK := Hd hk
  have hnl : lz n ≤ 2048 := hn
  have hdl : lz d ≤ 2048 := hd
  have hol : lz one ≤ 2048 := by rw [hone]; decide
  have C3 := Hd (fun (V : World) (h : Raw V A c (natL n.natAbs)) (htab : powTab V) => exact_Digits (decide (n < 0)) A c _ (canon_natL _) (by unfold lz at hnl; omega) V h htab)
  simp only [ival_at] at C3
  have hk0 : k = 0 := by rw [hk, hone, hd1]; decide
  have HD := Hd (show fracText n d = Lib.itoa n from if_pos hd1)
  obtain ⟨t1, ht1⟩ : ∃ t : ByteArray, t = ⟨(Lib.itoa n).toArray⟩ := ⟨_, rfl⟩
  rw [← ht1] at C3
  have HT1 := Hd ht1
  clear htab hone hk hn hd hd1 ht1
  have b0 := ((Below.refl w.heap.size w).alloc (Nat.le_refl _) (.cells #[.bool (decide (n < 0)), .slice A (natL n.natAbs).length c, .bool (decide (d < 0)), .slice B (natL d.natAbs).length e0] 27))
  have p0 := Quad.new w (.bool (decide (n < 0))) (.slice A (natL n.natAbs).length c) (.bool (decide (d < 0))) (.slice B (natL d.natAbs).length e0)
  have V_x := Hd (FV.mk p0 (h_x.below b0) (k_x.below b0))
  have KW_x := Hd k_x
  have RW_x := Hd h_x
  have HBW := Hd b0
  clear b0 p0 h_x k_x
  go_enter Tryz.func92, Tryz.ntmps92
  obtain ⟨W, E⟩ : ∃ W, W = (w.alloc (.cells #[.bool (decide (n < 0)), .slice A (natL n.natAbs).length c, .bool (decide (d < 0)), .slice B (natL d.natAbs).length e0] 27)) := ⟨_, rfl⟩
  go_upto_region 1 with fail
  rw [← E] at V_x HBW ⊢
  clear E
  have HT := Hd (HTW.out.below2 HBW.out)
  clear HTW
  subst hk0
  refine wp_region_free [.val (.pointer (some ⟨w.heap.size, 2, none⟩)) [], .val (.agg #[.bool (decide (d < 0)), .slice B (natL d.natAbs).length e0]) [], .any false (fun u V => IntAt V u one) [], .val (.int .i64 0) [2], .val (.bool true) []] W.heap.size W [] blkInt _ mixedOrders2 (Nat.le_refl _) (Below.refl _ _) (KeptV.refl _ _ _) rfl (by kernel_rfl) (by kernel_rfl) (by kernel_rfl) (by kernel_rfl) (by kernel_rfl) (by kernel_rfl) (by kernel_rfl) (by kernel_rfl) rfl (by simp [oldsF]) ?_ ?_ ?_ ?_
  · simp only [StableF, and_true]
    exact fun u V V' h k => h.keptNone k
  · simp only [OldsF]
  · simp (maxSteps := 4000000) [StepsF, DepF, freeAct, fill, pairs]
    repeat' (first | apply And.intro | (intro (u : Value)) | (intro (u : Nat)))
    all_goals first
    | (intro V hV hK
       have qx := (V_x.out.below hV).quad
       obtain ⟨-, a_x, b_x, c_x, d_x, -, -, -, -⟩ := qx.facts
       clear hV hK qx
       go_simp
       first
       | exact Below.refl _ _
       | ((with_reducible refine (eof 1 one H1.out (by decide) (by decide) V).mono ?_); rintro e w' ⟨v, rfl, hv, hb⟩; exact ⟨hv.at_, hb⟩))
    | (intro V hV hK h1
       have rg := (V_x.out.below hV).den
       obtain ⟨A5, c5, rfl, r5⟩ := h1.form
       clear hV hK h1
       go_simp
       refine (ecmp d one 0 B A5 e0 c5 V rg r5 (by omega) (by omega) HK.out).mono ?_
       rintro e w' ⟨rfl, hb⟩
       exact ⟨rfl, hb⟩)
  · simp [EndF, FactsF, freeAct, fill, pairs]
    intro u1 V hV hK _ _ _ _
    have HBW := Hd (HBW.out.trans (hV.mono HBW.out.size))
    have V_x := Hd (V_x.out.below hV)
    have HT := Hd (HT.out.below2 hV)
    clear hV hK
    obtain ⟨l_x, a_x, b_x, c_x, d_x, -, -, -, -⟩ := V_x.out.quad.facts
    go_wp2_with fail
    refine (C3.out V V_x.out.num HT.out).mono ?_
    rintro e w9 ⟨rfl, hb⟩
    have HF := Hd (belowTo HBW.out hb)
    clear l_x a_x b_x c_x d_x hb
    go_wp2_with fail
    go_ret
    exact ⟨by rw [HD.out, ← HT1.out]; rfl, HF.out⟩

theorem ratio_Digits_more (n d : Int) (A B : Option Addr) (c e0 : Nat) (w : World) (h_x : Raw w A c (natL n.natAbs)) (k_x : Raw w B e0 (natL d.natAbs)) (htab : powTab w) (hn : Fit n) (hd : Fit d) (hd1 : d ≠ 1) :
    Calls Tryz.prog 92 #[.agg #[.bool (decide (n < 0)), .slice A (natL n.natAbs).length c, .bool (decide (d < 0)), .slice B (natL d.natAbs).length e0]] w fun e w' => e = .returned (.string ⟨(fracText n d).toArray⟩) ∧ Below w.heap.size w w' := by
  have HTW := Hd htab
  obtain ⟨one, hone⟩ : ∃ k : Int, k = 1 := ⟨_, rfl⟩
  obtain ⟨k, hk⟩ : ∃ k : Int, k = cmpz d one := ⟨_, rfl⟩
  have H1 := Hd hone
  have HK := Hd hk
  have hnl : lz n ≤ 2048 := hn
  have hdl : lz d ≤ 2048 := hd
  have hol : lz one ≤ 2048 := by rw [hone]; decide
  have C3 := Hd (fun (V : World) (h : Raw V A c (natL n.natAbs)) (htab : powTab V) => exact_Digits (decide (n < 0)) A c _ (canon_natL _) (by unfold lz at hnl; omega) V h htab)
  simp only [ival_at] at C3
  have C4 := Hd (fun (V : World) (h : Raw V B e0 (natL d.natAbs)) (htab : powTab V) => exact_Digits (decide (d < 0)) B e0 _ (canon_natL _) (by unfold lz at hdl; omega) V h htab)
  simp only [ival_at] at C4
  have hk0 : k ≠ 0 := by rw [hk, hone]; unfold cmpz; split <;> (try split) <;> omega
  have hs0 : (k == 0) = false := by simpa using hk0
  have HD := Hd (show fracText n d = Lib.itoa n ++ 47 :: Lib.itoa d from if_neg hd1)
  have f1 := itoa_fit hn
  have f2 := itoa_fit hd
  obtain ⟨t1, ht1⟩ : ∃ t : ByteArray, t = ⟨(Lib.itoa n).toArray⟩ := ⟨_, rfl⟩
  obtain ⟨t2, ht2⟩ : ∃ t : ByteArray, t = ⟨(Lib.itoa d).toArray⟩ := ⟨_, rfl⟩
  have g1 : t1.size ≤ 65537 := by rw [ht1]; simpa [ByteArray.size] using f1
  have g2 : t2.size ≤ 65537 := by rw [ht2]; simpa [ByteArray.size] using f2
  obtain ⟨t3, ht3⟩ : ∃ t : ByteArray, t = t1 ++ ⟨#[47]⟩ := ⟨_, rfl⟩
  have g3 : t3.size = t1.size + 1 := by rw [ht3]; simp [ByteArray.size_append]; rfl
  have HC1 := Hd (show ¬ 9223372036854775807 < t1.size + 1 from by omega)
  have HC2 := Hd (show ¬ 9223372036854775807 < t3.size + t2.size from by omega)
  have HC3 := Hd ht3
  have HTT := Hd (show t3 ++ t2 = ⟨(fracText n d).toArray⟩ from by rw [HD.out, ht3, ht1, ht2, ByteArray.mk_append_mk, ByteArray.mk_append_mk]; simp)
  rw [← ht1] at C3
  rw [← ht2] at C4
  clear htab hone hk hn hd hd1 ht1 ht2 ht3 f1 f2 g1 g2 g3 HD hk0
  have b0 := ((Below.refl w.heap.size w).alloc (Nat.le_refl _) (.cells #[.bool (decide (n < 0)), .slice A (natL n.natAbs).length c, .bool (decide (d < 0)), .slice B (natL d.natAbs).length e0] 27))
  have p0 := Quad.new w (.bool (decide (n < 0))) (.slice A (natL n.natAbs).length c) (.bool (decide (d < 0))) (.slice B (natL d.natAbs).length e0)
  have V_x := Hd (FV.mk p0 (h_x.below b0) (k_x.below b0))
  have KW_x := Hd k_x
  have RW_x := Hd h_x
  have HBW := Hd b0
  clear b0 p0 h_x k_x
  go_enter Tryz.func92, Tryz.ntmps92
  obtain ⟨W, E⟩ : ∃ W, W = (w.alloc (.cells #[.bool (decide (n < 0)), .slice A (natL n.natAbs).length c, .bool (decide (d < 0)), .slice B (natL d.natAbs).length e0] 27)) := ⟨_, rfl⟩
  go_upto_region 1 with fail
  rw [← E] at V_x HBW ⊢
  clear E
  have HT := Hd (HTW.out.below2 HBW.out)
  clear HTW
  refine wp_region_free [.val (.pointer (some ⟨w.heap.size, 2, none⟩)) [], .val (.agg #[.bool (decide (d < 0)), .slice B (natL d.natAbs).length e0]) [], .any false (fun u V => IntAt V u one) [], .val (.int .i64 k) [2], .val (.bool false) []] W.heap.size W [] blkInt _ mixedOrders2 (Nat.le_refl _) (Below.refl _ _) (KeptV.refl _ _ _) rfl (by kernel_rfl) (by kernel_rfl) (by kernel_rfl) (by kernel_rfl) (by kernel_rfl) (by kernel_rfl) (by kernel_rfl) (by kernel_rfl) rfl (by simp [oldsF]) ?_ ?_ ?_ ?_
  · simp only [StableF, and_true]
    exact fun u V V' h k => h.keptNone k
  · simp only [OldsF]
  · simp (maxSteps := 4000000) [StepsF, DepF, freeAct, fill, pairs]
    repeat' (first | apply And.intro | (intro (u : Value)) | (intro (u : Nat)))
    all_goals first
    | (intro V hV hK
       have qx := (V_x.out.below hV).quad
       obtain ⟨-, a_x, b_x, c_x, d_x, -, -, -, -⟩ := qx.facts
       clear hV hK qx
       go_simp
       first
       | exact Below.refl _ _
       | ((with_reducible refine (eof 1 one H1.out (by decide) (by decide) V).mono ?_); rintro e w' ⟨v, rfl, hv, hb⟩; exact ⟨hv.at_, hb⟩))
    | (intro V hV hK h1
       have rg := (V_x.out.below hV).den
       obtain ⟨A5, c5, rfl, r5⟩ := h1.form
       clear hV hK h1
       go_simp
       refine (ecmp d one k B A5 e0 c5 V rg r5 (by omega) (by omega) HK.out).mono ?_
       rintro e w' ⟨rfl, hb⟩
       exact ⟨rfl, hb⟩)
  · simp [EndF, FactsF, freeAct, fill, pairs]
    intro u1 V hV hK _ _ _ _
    have HBW := Hd (HBW.out.trans (hV.mono HBW.out.size))
    have V_x := Hd (V_x.out.below hV)
    have HT := Hd (HT.out.below2 hV)
    have hV1 := HBW.out.size
    clear hV hK
    clear hs0
    go_wp2_with fail
    refine wp_region_free [.val (.pointer (some ⟨w.heap.size, 0, none⟩)) [], .val (.agg #[.bool (decide (n < 0)), .slice A (natL n.natAbs).length c]) [], .val (.string t1) [], .val (.string t3) [], .val (.pointer (some ⟨w.heap.size, 2, none⟩)) [], .val (.agg #[.bool (decide (d < 0)), .slice B (natL d.natAbs).length e0]) [], .val (.string t2) [], .val (.string (t3 ++ t2)) [], .val (.string (t3 ++ t2)) []] V.heap.size V [] blkInt _ mixedOrders2 (Nat.le_refl _) (Below.refl _ _) (KeptV.refl _ _ _) rfl (by kernel_rfl) (by kernel_rfl) (by kernel_rfl) (by kernel_rfl) (by kernel_rfl) (by kernel_rfl) (by kernel_rfl) (by kernel_rfl) rfl (by simp [oldsF]) ?_ ?_ ?_ ?_
    · simp only [StableF]
    · simp only [OldsF]
    · simp (maxSteps := 4000000) [StepsF, DepF, freeAct, fill, pairs]
      repeat' (first | apply And.intro | (intro (u : Value)) | (intro (u : Nat)))
      all_goals first
      | (intro V' hV hK
         have qx := V_x.out.below hV
         have ht := HT.out.below2 hV
         obtain ⟨-, a_x, b_x, c_x, d_x, -, -, -, -⟩ := qx.quad.facts
         clear hV hK
         go_simp
         first
         | exact Below.refl _ _
         | (rw [if_neg HC1.out, ← HC3.out]; go_simp; exact Below.refl _ _)
         | (rw [if_neg HC2.out]; go_simp; exact Below.refl _ _)
         | ((with_reducible refine (C3.out V' qx.num ht).mono ?_); rintro e w' ⟨rfl, hb⟩; exact ⟨rfl, hb⟩)
         | ((with_reducible refine (C4.out V' qx.den ht).mono ?_); rintro e w' ⟨rfl, hb⟩; exact ⟨rfl, hb⟩))
    · simp [EndF, FactsF, freeAct, fill, pairs]
      intro V' hV hK _ _ _
      have HF := Hd (HBW.out.trans (hV.mono hV1))
      clear hV hK hV1
      go_wp2_with fail
      go_ret
      exact ⟨by rw [← HTT.out]; rfl, HF.out⟩

theorem ratio_Digits (n d : Int) (A B : Option Addr) (c e0 : Nat) (w : World) (h : Raw w A c (natL n.natAbs)) (g : Raw w B e0 (natL d.natAbs)) (htab : powTab w) (hn : Fit n) (hd : Fit d) :
    Calls Tryz.prog 92 #[.agg #[.bool (decide (n < 0)), .slice A (natL n.natAbs).length c, .bool (decide (d < 0)), .slice B (natL d.natAbs).length e0]] w fun e w' => e = .returned (.string ⟨(fracText n d).toArray⟩) ∧ Below w.heap.size w w' := by
  by_cases h1 : d = 1
  · exact ratio_Digits_one n d A B c e0 w h g htab hn hd h1
  · exact ratio_Digits_more n d A B c e0 w h g htab hn hd h1

theorem ratio_Sign (n s : Int) (d : Int) (A B : Option Addr) (c e0 : Nat) (w : World) (h : Raw w A c (natL n.natAbs)) (hs : s = n.sign) :
    Calls Tryz.prog 89 #[.agg #[.bool (decide (n < 0)), .slice A (natL n.natAbs).length c, .bool (decide (d < 0)), .slice B (natL d.natAbs).length e0]] w fun e w' => e = .returned (.int .i64 s) ∧ Below w.heap.size w w' := by
  have px := Quad.new w (.bool (decide (n < 0))) (.slice A (natL n.natAbs).length c) (.bool (decide (d < 0))) (.slice B (natL d.natAbs).length e0)
  have b0 := (Below.refl w.heap.size w).alloc (Nat.le_refl _) (.cells #[.bool (decide (n < 0)), .slice A (natL n.natAbs).length c, .bool (decide (d < 0)), .slice B (natL d.natAbs).length e0] 27)
  have C := Hd (esign n s A c _ (h.below b0) hs)
  have B0 := Hd b0
  obtain ⟨-, x0, x1, x2, x3, -, -, -, -⟩ := px.facts
  clear h hs px b0
  go_enter Tryz.func89, Tryz.ntmps89
  go_wp2_with fail
  refine C.out.mono ?_
  rintro e w1 ⟨rfl, hb⟩
  have HF := Hd (belowTo B0.out hb)
  clear x0 x1 x2 x3 hb
  go_wp2_with fail
  go_ret
  exact ⟨rfl, HF.out⟩

theorem frac_Text_good (n d : Int) (t : ByteArray) (A B : Option Addr) (c e0 : Nat) (w : World) (h : Raw w A c (natL n.natAbs)) (g : Raw w B e0 (natL d.natAbs)) (htab : powTab w) (hn : Fit n) (hd : Fit d) (hc : chkE (decide (n < 0)) (decide (d < 0)) (natL n.natAbs) (natL d.natAbs) = 0) (ht : t = ⟨(fracText n d).toArray⟩) (hsz : t.size ≤ 65536) :
    Calls Tryz.prog 60 #[.agg #[.bool (decide (n < 0)), .slice A (natL n.natAbs).length c, .bool (decide (d < 0)), .slice B (natL d.natAbs).length e0]] w fun e w' => e = .returned (.tuple #[.string t, .int .i64 0]) ∧ Below w.heap.size w w' := by
  have C1 := fun (V : World) (g' : Nat) (h : Raw V A c (natL n.natAbs)) (g : Raw V B e0 (natL d.natAbs)) (hg : V.heap.size = g') => checks_new (decide (n < 0)) (decide (d < 0)) A B c e0 _ _ V g' h g hg
  rw [hc] at C1
  have C2 := fun (V : World) (h : Raw V A c (natL n.natAbs)) (g : Raw V B e0 (natL d.natAbs)) (htab : powTab V) => ratio_Digits n d A B c e0 V h g htab hn hd
  rw [← ht] at C2
  have H1 := Hd C1
  have H2 := Hd C2
  have HTW := Hd htab
  have hz : (t.size : Int) ≤ 65536 := by omega
  clear C1 C2 hc ht htab hn hd hsz
  have px := Quad.new w (.bool (decide (n < 0))) (.slice A (natL n.natAbs).length c) (.bool (decide (d < 0))) (.slice B (natL d.natAbs).length e0)
  have b0 := (Below.refl w.heap.size w).alloc (Nat.le_refl _) (.cells #[.bool (decide (n < 0)), .slice A (natL n.natAbs).length c, .bool (decide (d < 0)), .slice B (natL d.natAbs).length e0] 27)
  have h1 := h.below b0
  have g1 := g.below b0
  have PX := Hd px
  have B0 := Hd b0
  have RX := Hd h1
  have RY := Hd g1
  clear px b0 h g h1 g1
  go_enter Tryz.func60, Tryz.ntmps60
  obtain ⟨W, E⟩ : ∃ W, W = w.alloc (.cells #[.bool (decide (n < 0)), .slice A (natL n.natAbs).length c, .bool (decide (d < 0)), .slice B (natL d.natAbs).length e0] 27) := ⟨_, rfl⟩
  go_upto_region 1 with fail
  rw [← E] at PX B0 RX RY ⊢
  clear E
  obtain ⟨l_x, a_x, b_x, c_x, d_x, -, -, -, -⟩ := PX.out.facts
  go_wp2_with fail
  refine (H1.out W _ RX.out RY.out rfl).mono ?_
  rintro e w1 ⟨rfl, hb⟩
  have PX := Hd ((PX.out.alloc (.cells #[.bool (decide (n < 0)), .slice A (natL n.natAbs).length c, .bool (decide (d < 0)), .slice B (natL d.natAbs).length e0] 27)).below hb)
  have BB := Hd (belowTo (B0.out.alloc B0.out.size (.cells #[.bool (decide (n < 0)), .slice A (natL n.natAbs).length c, .bool (decide (d < 0)), .slice B (natL d.natAbs).length e0] 27)) hb)
  have RX := Hd ((RX.out.alloc (.cells #[.bool (decide (n < 0)), .slice A (natL n.natAbs).length c, .bool (decide (d < 0)), .slice B (natL d.natAbs).length e0] 27)).below hb)
  have RY := Hd ((RY.out.alloc (.cells #[.bool (decide (n < 0)), .slice A (natL n.natAbs).length c, .bool (decide (d < 0)), .slice B (natL d.natAbs).length e0] 27)).below hb)
  have HT := Hd (HTW.out.below2 BB.out)
  clear HTW B0 hb l_x a_x b_x c_x d_x
  obtain ⟨l_x, a_x, b_x, c_x, d_x, -, -, -, -⟩ := PX.out.facts
  go_wp2_with fail
  refine (H2.out w1 RX.out RY.out HT.out).mono ?_
  rintro e w2 ⟨rfl, hb⟩
  have HF := Hd (belowTo BB.out hb)
  clear hb l_x a_x b_x c_x d_x
  go_wp2_with fail
  go_ret2
  exact ⟨rfl, HF.out⟩
/- FracCost, TwinFrac, LeftFrac of the laws; Checks and Sign of the references. (Written by wip/frac/genflaw.py.) -/

theorem frac_size (n1 n2 : Bool) (A B : Option Addr) (c e0 : Nat) (xs ys : List Nat) (hx : xs.length ≤ 1152921504606846975) (hy : ys.length ≤ 1152921504606846975) (w : World) :
    Calls Tryz.prog 57 #[.agg #[.bool n1, .slice A xs.length c, .bool n2, .slice B ys.length e0]] w fun e w' => e = .returned (.int .i64 ((1 + xs.length + (1 + ys.length) : Nat) : Int)) ∧ Below w.heap.size w w' := by
  have D1 := fun V => intSize_any n1 A c xs.length hx V
  have D2 := fun V => intSize_any n2 B e0 ys.length hy V
  obtain ⟨s1, hs1⟩ : ∃ k : Nat, k = 1 + xs.length := ⟨_, rfl⟩
  obtain ⟨s2, hs2⟩ : ∃ k : Nat, k = 1 + ys.length := ⟨_, rfl⟩
  rw [← hs1] at D1 ⊢
  rw [← hs2] at D2 ⊢
  obtain ⟨s3, hs3⟩ : ∃ k : Nat, k = s1 + s2 := ⟨_, rfl⟩
  rw [← hs3]
  have HW := Hd (show IntKind.i64.wrap ((s1 : Int) + (s2 : Int)) = (s3 : Int) from by rw [IntKind.wrap_i64]; omega)
  have H1 := Hd D1
  have H2 := Hd D2
  clear D1 D2 hx hy hs1 hs2 hs3
  have px := Quad.new w (.bool n1) (.slice A xs.length c) (.bool n2) (.slice B ys.length e0)
  have b0 := (Below.refl w.heap.size w).alloc (Nat.le_refl _) (.cells #[.bool n1, .slice A xs.length c, .bool n2, .slice B ys.length e0] 27)
  have PX := Hd px
  have HB := Hd b0
  clear px b0
  go_enter Tryz.func57, Tryz.ntmps57
  go_wp2_with fail
  obtain ⟨W, E⟩ : ∃ W, W = w.alloc (.cells #[.bool n1, .slice A xs.length c, .bool n2, .slice B ys.length e0] 27) := ⟨_, rfl⟩
  rw [← E] at PX HB ⊢
  clear E
  refine wp_region_free [.val (.pointer (some ⟨w.heap.size, 0, none⟩)) [], .val (.agg #[.bool n1, .slice A xs.length c]) [], .val (.int .i64 s1) [], .val (.pointer (some ⟨w.heap.size, 2, none⟩)) [], .val (.agg #[.bool n2, .slice B ys.length e0]) [], .val (.int .i64 s2) [], .val (.int .i64 s3) [], .val (.int .i64 s3) []] W.heap.size W [] blkInt _ mixedOrders2 (Nat.le_refl _) (Below.refl _ _) (KeptV.refl _ _ _) rfl (by kernel_rfl) (by kernel_rfl) (by kernel_rfl) (by kernel_rfl) (by kernel_rfl) (by kernel_rfl) (by kernel_rfl) (by kernel_rfl) rfl (by simp [oldsF]) ?_ ?_ ?_ ?_
  · simp only [StableF]
  · simp only [OldsF]
  · simp (maxSteps := 4000000) [StepsF, DepF, freeAct, fill, pairs]
    repeat' (first | apply And.intro | (intro (u : Value)) | (intro (u : Nat)))
    all_goals
      intro V hV hK
      obtain ⟨-, a_x, b_x, c_x, d_x, -, -, -, -⟩ := (PX.out.below hV).facts
      clear hV hK
      go_simp
      first
      | exact Below.refl _ _
      | exact ⟨HW.out, Below.refl _ _⟩
      | ((with_reducible refine (H1.out V).mono ?_); rintro e w' ⟨rfl, hb⟩; exact ⟨rfl, hb⟩)
      | ((with_reducible refine (H2.out V).mono ?_); rintro e w' ⟨rfl, hb⟩; exact ⟨rfl, hb⟩)
  · simp [EndF, FactsF, freeAct, fill, pairs]
    intro V hV hK _ _ _
    have HB := Hd (belowTo HB.out hV)
    clear hV hK
    go_wp2_with fail
    go_ret
    exact ⟨rfl, HB.out⟩

def fcost (a b : Nat) : Nat := 1 + a + (1 + b) + costN a b
theorem fcost_le {a b : Nat} (ha : a ≤ 1152921504606846975) (hb : b ≤ 1152921504606846975) : fcost a b ≤ 2305913377957871618 := by
  have := costN_le a b
  unfold fcost
  omega

theorem frac_cost (n1 n2 : Bool) (A B : Option Addr) (c e0 : Nat) (xs ys : List Nat) (hx : xs.length ≤ 1152921504606846975) (hy : ys.length ≤ 1152921504606846975) (w : World) (h : Raw w A c xs) (g : Raw w B e0 ys) :
    Calls Tryz.prog 25 #[.agg #[.bool n1, .slice A xs.length c, .bool n2, .slice B ys.length e0]] w fun e w' => e = .returned (.int .i64 (fcost xs.length ys.length : Nat)) ∧ Below w.heap.size w w' := by
  have D1 := fun V => frac_size n1 n2 A B c e0 xs ys hx hy V
  have D2 := fun (V : World) (h : Raw V A c xs) (g : Raw V B e0 ys) => cost_low n1 n2 A B c e0 xs ys V h g
  rw [costLow_N] at D2
  have hc := costN_le xs.length ys.length
  obtain ⟨s1, hs1⟩ : ∃ k : Nat, k = 1 + xs.length + (1 + ys.length) := ⟨_, rfl⟩
  obtain ⟨s2, hs2⟩ : ∃ k : Nat, k = costN xs.length ys.length := ⟨_, rfl⟩
  obtain ⟨s3, hs3⟩ : ∃ k : Nat, k = fcost xs.length ys.length := ⟨_, rfl⟩
  have e3 : s3 = s1 + s2 := by rw [hs3, hs1, hs2]; rfl
  rw [← hs1] at D1
  rw [← hs2] at D2 hc
  rw [← hs3]
  have HW := Hd (show IntKind.i64.wrap ((s1 : Int) + (s2 : Int)) = (s3 : Int) from by rw [IntKind.wrap_i64]; omega)
  have H1 := Hd D1
  have H2 := Hd D2
  clear D1 D2 hx hy hs1 hs2 hs3 e3 hc
  have px := Quad.new w (.bool n1) (.slice A xs.length c) (.bool n2) (.slice B ys.length e0)
  have b0 := (Below.refl w.heap.size w).alloc (Nat.le_refl _) (.cells #[.bool n1, .slice A xs.length c, .bool n2, .slice B ys.length e0] 27)
  have rx := Hd (h.below b0)
  have ry := Hd (g.below b0)
  clear h g
  have PX := Hd px
  have HB := Hd b0
  clear px b0
  go_enter Tryz.func25, Tryz.ntmps25
  go_wp2_with fail
  obtain ⟨W, E⟩ : ∃ W, W = w.alloc (.cells #[.bool n1, .slice A xs.length c, .bool n2, .slice B ys.length e0] 27) := ⟨_, rfl⟩
  rw [← E] at PX HB rx ry ⊢
  clear E
  refine wp_region_free [.val (.agg #[.bool n1, .slice A xs.length c, .bool n2, .slice B ys.length e0]) [], .val (.int .i64 s1) [], .val (.pointer (some ⟨w.heap.size, 0, none⟩)) [], .val (.agg #[.bool n1, .slice A xs.length c]) [], .val (.pointer (some ⟨w.heap.size, 2, none⟩)) [], .val (.agg #[.bool n2, .slice B ys.length e0]) [], .val (.int .i64 s2) [], .val (.int .i64 s3) [], .val (.int .i64 s3) []] W.heap.size W [] blkInt _ mixedOrders2 (Nat.le_refl _) (Below.refl _ _) (KeptV.refl _ _ _) rfl (by kernel_rfl) (by kernel_rfl) (by kernel_rfl) (by kernel_rfl) (by kernel_rfl) (by kernel_rfl) (by kernel_rfl) (by kernel_rfl) rfl (by simp [oldsF]) ?_ ?_ ?_ ?_
  · simp only [StableF]
  · simp only [OldsF]
  · simp (maxSteps := 4000000) [StepsF, DepF, freeAct, fill, pairs]
    repeat' (first | apply And.intro | (intro (u : Value)) | (intro (u : Nat)))
    all_goals
      intro V hV hK
      obtain ⟨-, a_x, b_x, c_x, d_x, -, -, -, -⟩ := (PX.out.below hV).facts
      have r1 := rx.out.below hV
      have r2 := ry.out.below hV
      clear hV hK
      go_simp
      first
      | exact Below.refl _ _
      | exact ⟨HW.out, Below.refl _ _⟩
      | ((with_reducible refine (H1.out V).mono ?_); rintro e w' ⟨rfl, hb⟩; exact ⟨rfl, hb⟩)
      | ((with_reducible refine (H2.out V r1 r2).mono ?_); rintro e w' ⟨rfl, hb⟩; exact ⟨rfl, hb⟩)
  · simp [EndF, FactsF, freeAct, fill, pairs]
    intro V hV hK _ _ _
    have HB := Hd (belowTo HB.out hV)
    clear hV hK
    go_wp2_with fail
    go_ret
    exact ⟨rfl, HB.out⟩

structure TwinI (neg : Bool) (xs : List Nat) (v : Value) (V : World) : Prop where
  form : ∃ g, v = .agg #[.bool neg, .slice (some ⟨g, 0, none⟩) xs.length (xs.length + 1)] ∧ TwinAt V g xs
structure TwinF (n1 n2 : Bool) (xs ys : List Nat) (v : Value) (V : World) : Prop where
  form : ∃ g1 g2, v = .agg #[.bool n1, .slice (some ⟨g1, 0, none⟩) xs.length (xs.length + 1), .bool n2, .slice (some ⟨g2, 0, none⟩) ys.length (ys.length + 1)] ∧ TwinAt V g1 xs ∧ TwinAt V g2 ys
/- The four operations of package frac; Cmp. (Written by wip/frac/genfops.py.) -/

theorem Reads.blk {w : World} {g n size : Nat} {t : TypeId} {cs : List Value} (h : Blk w g t cs.toArray) (hl : cs.length = n * size) : Reads w w.heap.size size (some ⟨g, 0, none⟩) n cs :=
  ⟨hl, fun _ => ⟨⟨g, 0, none⟩, rfl, h.lt, fun j u hu => by
    rw [show (⟨g, 0, none⟩ : Addr).add j = ⟨g, j, none⟩ by unfold Addr.add; split <;> simp_all, h.cell j, ← hu]
    simp⟩⟩
theorem FracIn.below {w w' : World} {base : Nat} {v : Value} {n d : Int} (h : FracIn w base v n d) (hb : Below w.heap.size w w') : FracIn w' base v n d := by
  obtain ⟨A, k, B, e, h1, h2, h3⟩ := h.form
  exact ⟨A, k, B, e, h1, h2.below hb, h3.below hb⟩

theorem ratio_ChecksI (l : List FLoc) (ks : Nat → Bool) (A : Option Addr) (c : Nat) (hl : l.length ≤ 9223372036854775807) (w : World) (h : Reads w w.heap.size 4 A l.length (cellsF l))
    (H : ∀ q (hq : q < l.length), ∀ V, Below w.heap.size w V → Calls Tryz.prog 68 #[l[q].val] V fun e w' => e = .returned (.int .i64 (if ks q then 0 else 1)) ∧ Below V.heap.size V w') :
    Calls Tryz.prog 40 #[.slice A l.length c] w fun e w' => e = .returned (.bool ((List.range l.length).all ks)) ∧ Below w.heap.size w w' := by
  have HR := Hd h
  have HS := Hd H
  clear h H
  have H0 := Hd (by intro j hj; omega : ∀ j (_ : j < 0), (h : j < l.length) → ks j = true)
  go_enter Tryz.func40, Tryz.ntmps40
  go_wp2_with fail
  go_loopw [7] (fun s wr => ∃ i : Nat, s = .int .i64 i ∧ i ≤ l.length ∧ Hid (∀ j (_ : j < i), (h : j < l.length) → ks j = true) ∧ Below w.heap.size w wr) (fun s _ => l.length - (intOf s).toNat)
  case atStart => exact ⟨0, rfl, Nat.zero_le _, H0, Below.refl _ _⟩
  case round =>
    obtain ⟨i, rfl, hi, HN, hb⟩ := hrel
    clear H0
    by_cases hlt : i < l.length
    · have a0 : (0 : Int) ≤ (i : Int) := by omega
      have a1 : (i : Int) < (l.length : Int) := by omega
      obtain ⟨e0, e1, e2, e3⟩ := cellsF_get l i hlt
      obtain ⟨ad, rfl, hbl, c0, c1, c2, c3⟩ := (HR.out.below hb).row4 hlt e0 e1 e2 e3
      have C := HS.out i hlt
      unfold FLoc.val at C
      have HB := Hd hb
      clear e0 e1 e2 e3 hbl hb
      by_cases hlong : ks i = true
      · rw [if_pos hlong] at C
        have C := Hd C
        have HL := Hd hlong
        clear hlong
        go_wp2_with (first | (go_at_call 68; with_reducible refine (C.out _ (HB.out.alloc HB.out.size _)).mono ?_; rintro e w' ⟨rfl, hb'⟩; have B1 := belowTo (HB.out.alloc HB.out.size _) hb'))
        go_roundw
        case rel =>
          refine ⟨i + 1, by go_num, hlt, Hd fun j hj h => ?_, B1⟩
          rcases (by omega : j < i ∨ j = i) with hj | rfl
          · exact HN.out j hj h
          · exact HL.out
        case measure => simp [intOf]; omega
      · rw [if_neg hlong] at C
        have C := Hd C
        have HL := Hd hlong
        clear hlong
        go_wp2_with (first | (go_at_call 68; with_reducible refine (C.out _ (HB.out.alloc HB.out.size _)).mono ?_; rintro e w' ⟨rfl, hb'⟩; have B1 := belowTo (HB.out.alloc HB.out.size _) hb'))
        go_ret
        have e : (List.range l.length).all ks = false := List.all_eq_false.2 ⟨i, List.mem_range.2 hlt, HL.out⟩
        exact ⟨by rw [e]; rfl, B1⟩
    · have HB := Hd hb
      clear hb
      go_wp2_with fail
      go_ret
      have e : (List.range l.length).all ks = true := List.all_eq_true.2 fun x hx => by
        have hj := List.mem_range.1 hx
        exact HN.out x (by omega) hj
      exact ⟨by rw [e]; rfl, HB.out⟩

theorem checks_two (n1 n2 n3 n4 : Bool) (A B A2 B2 : Option Addr) (c e0 c2 e2 : Nat) (xs ys us vs : List Nat) (V : World) (g' : Nat) (hx : Raw V A c xs) (kx : Raw V B e0 ys) (hy : Raw V A2 c2 us) (ky : Raw V B2 e2 vs) (hg : V.heap.size = g') :
    Calls Tryz.prog 40 #[.slice (some ⟨g', 0, none⟩) 2 2] (V.alloc (.cells #[.bool n1, .slice A xs.length c, .bool n2, .slice B ys.length e0, .bool n3, .slice A2 us.length c2, .bool n4, .slice B2 vs.length e2] 27)) fun e w' => e = .returned (.bool (chkE n1 n2 xs ys == 0 && chkE n3 n4 us vs == 0)) ∧ Below (V.alloc (.cells #[.bool n1, .slice A xs.length c, .bool n2, .slice B ys.length e0, .bool n3, .slice A2 us.length c2, .bool n4, .slice B2 vs.length e2] 27)).heap.size (V.alloc (.cells #[.bool n1, .slice A xs.length c, .bool n2, .slice B ys.length e0, .bool n3, .slice A2 us.length c2, .bool n4, .slice B2 vs.length e2] 27)) w' := by
  have := ratio_ChecksI [⟨n1, A, xs.length, c, n2, B, ys.length, e0⟩, ⟨n3, A2, us.length, c2, n4, B2, vs.length, e2⟩] (fun i => if i = 0 then chkE n1 n2 xs ys == 0 else chkE n3 n4 us vs == 0) (some ⟨g', 0, none⟩) 2 (by simp) (V.alloc (.cells #[.bool n1, .slice A xs.length c, .bool n2, .slice B ys.length e0, .bool n3, .slice A2 us.length c2, .bool n4, .slice B2 vs.length e2] 27))
    (by subst hg; exact Reads.blk (Blk.new V 27 #[.bool n1, .slice A xs.length c, .bool n2, .slice B ys.length e0, .bool n3, .slice A2 us.length c2, .bool n4, .slice B2 vs.length e2]) rfl)
    (by
      intro q hq W hW
      rcases (by simp at hq; omega : q = 0 ∨ q = 1) with rfl | rfl
      · have := ratio_Check n1 n2 A B c e0 xs ys W ((hx.alloc _).below hW) ((kx.alloc _).below hW)
        rw [chkE_bool] at this
        exact this
      · have := ratio_Check n3 n4 A2 B2 c2 e2 us vs W ((hy.alloc _).below hW) ((ky.alloc _).below hW)
        rw [chkE_bool] at this
        exact this)
  simpa [List.range, List.range.loop] using this

structure Fine (n d : Int) : Prop where
  chk : chkE (decide (n < 0)) (decide (d < 0)) (natL n.natAbs) (natL d.natAbs) = 0
  num : Fit n
  den : Fit d
  pos : 0 < d
  low : gcdZ n d = 1
theorem fine_of {n1 n2 : Bool} {xs ys : List Nat} (hx : Limbs xs) (hy : Limbs ys) (h0 : chkE n1 n2 xs ys = 0) : ∃ n d, Fine n d ∧ n1 = decide (n < 0) ∧ n2 = decide (d < 0) ∧ xs = natL n.natAbs ∧ ys = natL d.natAbs := by
  have hc := h0
  unfold chkE mkOk at h0
  cases o1 : okI n1 xs with
  | false => rw [o1] at h0; simp at h0
  | true =>
    cases o2 : okI n2 ys with
    | false => rw [o1, o2] at h0; simp at h0
    | true =>
      obtain ⟨a1, a2, a3⟩ := ok_num hx o1
      obtain ⟨b1, b2, b3⟩ := ok_num hy o2
      rw [o1, o2] at h0
      simp only [Bool.and_self, if_true] at h0
      generalize ival n1 xs = n at a1 a2 a3 h0
      generalize ival n2 ys = d at b1 b2 b3 h0
      subst a1 a2 b1 b2
      split at h0
      · next h1 => exact ⟨n, d, ⟨hc, a3, b3, h1.1, h1.2⟩, rfl, rfl, rfl, rfl⟩
      · simp at h0
def ansN (n d : Int) : Int := if lz n ≤ 2048 ∧ lz d ≤ 2048 then n else 0
def ansD (n d : Int) : Int := if lz n ≤ 2048 ∧ lz d ≤ 2048 then d else 0
def ansK (n d : Int) : Int := if lz n ≤ 2048 ∧ lz d ≤ 2048 then 0 else 4
def RetFracB (w : World) (n d : Int) (b : Bool) (e : Ending) (w' : World) : Prop := ∃ v, e = .returned (.tuple #[v, .bool b]) ∧ FracIn w' 0 v n d ∧ Below w.heap.size w w'

/- Facts of memory in one bundle: each stays true as memory grows. -/

structure Kp (P : World → Prop) (V : World) : Prop where
  h : P V
  st : ∀ V V', P V → Below V.heap.size V V' → P V'
end Go.Proofs.YtmcnmoljliggfaaGreatDoor
