/- Several texts in one: RefDigits, Answer. -/
import Derived.Test.YtbdliabfdplohaaDoorBt13
import Derived.Test.YtbdliabfdplohaaDoorBtHd
import Derived.Test.YtbdliabfdplohaaDoorBt10
import Derived.Test.YtbdliabfdplohaaDoorBt16
import Derived.Test.YtbdliabfdplohaaDoorBt09
import Derived.Deep.LoopGhost
import Derived.Laws.IdiomStrings
import Derived.Lib.Itoa
import Derived.Test.YtbdliabfdplohaaDoorBt22
set_option maxRecDepth 100000
set_option maxHeartbeats 8000000
/- Digits of the references: the decimal text of a whole number. -/
namespace Go.Proofs.YtbdliabfdplohaaDoor
open Go.RowKit

theorem byteInfoR : (Tryd.prog.info? 5).map (fun i => (i.zero, i.size, i.bytes)) = some (some (.int .u8 0), 1, 1) := by kernel_rfl
theorem rcount {V v k L : Nat} (hb : v * 2 ^ (29 * k) ≤ V) (hv : 0 < v) (hV : (natL V).length ≤ L) : k ≤ 2 * L := by
  have h1 : V < 2 ^ (32 * L) := by
    have := natL_length_le.1 hV
    rw [show 4294967296 = 2 ^ 32 by decide, ← Nat.pow_mul] at this
    exact this
  have h2 : 2 ^ (29 * k) ≤ V := Nat.le_trans (Nat.le_mul_of_pos_left _ hv) hb
  have h3 : 2 ^ (29 * k) < 2 ^ (32 * L) := by omega
  have := (Nat.pow_lt_pow_iff_right (by omega)).1 h3
  omega
theorem rbig {v n V : Nat} (h : v * 2 ^ (29 * n) ≤ V) : v / 1000000000 * 2 ^ (29 * (n + 1)) ≤ V := by
  rw [Nat.mul_add, Nat.mul_one, Nat.pow_add]
  generalize 2 ^ (29 * n) = p at *
  have h1 : v / 1000000000 * 2 ^ 29 ≤ v := by
    have : (2 : Nat) ^ 29 ≤ 1000000000 := by decide
    calc v / 1000000000 * 2 ^ 29 ≤ v / 1000000000 * 1000000000 := Nat.mul_le_mul_left _ this
      _ ≤ v := Nat.div_mul_le_self _ _
  calc v / 1000000000 * (p * 2 ^ 29) = v / 1000000000 * 2 ^ 29 * p := by rw [Nat.mul_comm p, Nat.mul_assoc]
    _ ≤ v * p := Nat.mul_le_mul_right _ h1
    _ ≤ V := h
structure Rd (w wr : World) (n1 : Bool) (S : Value) (V v : Nat) (cs : List Nat) (AP : Option Addr) (cP : Nat) (AL : Option Addr) (cL : Nat) : Prop where
  low : Below w.heap.size w wr
  raw : Raw wr AL cL (natL v)
  parts : wr.ownsRow (w.heap.size + 1) 40 1 (.slice AP cs.length cP) cs.length (cellsU cs)
  px : Pair wr w.heap.size 24 (.bool n1) S
  all : chunks V = cs ++ chunks v
  big : v * 2 ^ (29 * cs.length) ≤ V
  few : cs.length ≤ 2000001
def Rev (M : List UInt8) (i : Nat) (ys : List UInt8) : Prop := ys.length = M.length ∧ ∀ j, j < M.length → ys[j]? = if j < i ∨ M.length ≤ j + i then M[M.length - 1 - j]? else M[j]?
theorem Rev.start (M : List UInt8) : Rev M 0 M := ⟨rfl, fun j hj => by rw [if_neg (by omega)]⟩
theorem Rev.done {M ys : List UInt8} {i : Nat} (h : Rev M i ys) (hi : M.length ≤ 2 * i + 1) : ys = M.reverse := by
  apply List.ext_getElem?
  intro j
  rcases Nat.lt_or_ge j M.length with hj | hj
  · rw [h.2 j hj, List.getElem?_reverse hj]
    split
    · rfl
    · rw [show M.length - 1 - j = j by omega]
  · rw [List.getElem?_eq_none (by rw [h.1]; exact hj), List.getElem?_eq_none (by simpa using hj)]
theorem Rev.at_ {M ys : List UInt8} {i j : Nat} (h : Rev M i ys) (hj : j < M.length) (h1 : i ≤ j) (h2 : j + i < M.length) : ys[j]'(by rw [h.1]; exact hj) = M[j] := by
  have := h.2 j hj
  rw [if_neg (by omega), List.getElem?_eq_getElem hj, List.getElem?_eq_getElem (by rw [h.1]; exact hj)] at this
  exact Option.some.inj this
theorem Rev.next {M ys : List UInt8} {i k : Nat} (h : Rev M i ys) (hk : M.length = i + k + 1) (hik : i < k) : Rev M (i + 1) ((ys.set i (M[k]'(by omega))).set k (M[i]'(by omega))) := by
  refine ⟨by simp [h.1], fun j hj => ?_⟩
  rw [List.getElem?_set]
  by_cases e1 : k = j
  · subst e1
    rw [if_pos rfl, if_pos (by simp [h.1]; omega), if_pos (by omega), show M.length - 1 - k = i by omega, List.getElem?_eq_getElem (by omega)]
  · rw [if_neg e1, List.getElem?_set]
    by_cases e2 : i = j
    · subst e2
      rw [if_pos rfl, if_pos (by rw [h.1]; omega), if_pos (by omega), show M.length - 1 - i = k by omega, List.getElem?_eq_getElem (by omega)]
    · rw [if_neg e2, h.2 j hj]
      by_cases e3 : j < i ∨ M.length ≤ j + i
      · rw [if_pos e3, if_pos (by omega)]
      · rw [if_neg e3, if_neg (by omega)]

theorem ref_digits_more (n1 : Bool) (A : Option Addr) (c : Nat) (xs : List Nat) (hne : xs ≠ []) (hcx : Canon xs) (hl : xs.length ≤ 1000000) (z : List UInt8) (HZ : Hid (z = if n1 then 45 :: Lib.decDigits (val xs) else Lib.decDigits (val xs))) (w : World) (h : Raw w A c xs) :
    Calls Tryd.prog 22 #[.agg #[.bool n1, .slice A xs.length c]] w fun e w' => e = .returned (.string ⟨z.toArray⟩) ∧ Below w.heap.size w w' := by
  obtain ⟨i0, hi, hz0, hz1, hz2⟩ := info_parts limbInfo
  obtain ⟨j0, hj, hj0, hj1, hj2⟩ := info_parts byteInfoR
  have px := Pair.new w 24 (.bool n1) (.slice A xs.length c)
  have b0 := (Below.refl w.heap.size w).alloc (Nat.le_refl _) (.cells #[.bool n1, .slice A xs.length c] 24)
  have rx := h.alloc (.cells #[.bool n1, .slice A xs.length c] 24)
  obtain ⟨V, hV⟩ : ∃ V, V = val xs := ⟨_, rfl⟩
  have eV : natL V = xs := by rw [hV]; exact natL_val h.limbs hcx
  have hpV : V ≠ 0 := fun h0 => by rw [h0, natL_zero] at eV; exact hne eV.symm
  have hlen : ((xs.length : Int) == 0) = false := by
    have : xs.length ≠ 0 := fun e => hne (List.eq_nil_of_length_eq_zero e)
    simp; omega
  have hlen2 : ¬ xs = [] := hne
  rw [← hV] at HZ
  rw [← eV] at px b0 rx hl
  have H0 := Hd (show Rd w (w.alloc (.cells #[.bool n1, .slice A (natL V).length c] 24)) n1 (.slice A (natL V).length c) V V [] none 0 A c from ⟨b0, rx, World.ownsRow_nil _ _ _ _, px, rfl, by simp, by simp⟩)
  have HV := Hd hl
  have HPV := Hd hpV
  have HLEN := Hd hlen
  have eV2 := eV.symm
  subst eV2
  clear px b0 rx h hV hpV hcx hl hne hlen2 hlen eV
  obtain ⟨l_x, x0, x1, -, -⟩ := H0.out.px.facts
  have hlen := HLEN.out
  go_enter Tryd.func22, Tryd.ntmps22
  obtain ⟨W, E⟩ : ∃ W, W = w.alloc (.cells #[.bool n1, .slice A (natL V).length c] 24) := ⟨_, rfl⟩
  go_wp2_with fail
  rw [← E] at H0 ⊢
  clear E l_x x0 x1 hlen HLEN
  go_loopg [3, 4] (V) (fun v p l wr => ∃ AP cP cs AL cL, p = .slice AP cs.length cP ∧ l = .slice AL (natL v).length cL ∧ Hid (Rd w wr n1 (.slice A (natL V).length c) V v cs AP cP AL cL))
  case atStart => exact ⟨none, 0, [], A, c, rfl, rfl, H0⟩
  case round =>
    clear H0
    obtain ⟨AP, cP, cs, AL, cL, rfl, rfl, HR⟩ := hrel
    rcases Nat.eq_zero_or_pos gk with h0 | h0
    · subst h0
      have hall := HR.out.all
      rw [chunks_nil, List.append_nil] at hall
      have hn0 : (natL 0).length = 0 := by simp [natL_zero]
      rw [hn0]
      have HALL := Hd hall
      have HLT := Hd (fun c hc => chunks_lt V c (by rw [hall]; exact hc) : ∀ c ∈ cs, c < 1000000000)
      have hcnt := HR.out.few
      have HRD := Hd (show ReadsU wr wr.heap.size AP cs from Reads.of_own HR.out.parts)
      have HPX := Hd HR.out.px
      have HLW := Hd HR.out.low
      obtain ⟨wq, hwq⟩ : ∃ wq, wq = wr := ⟨_, rfl⟩
      subst hwq
      clear hall hn0 HR
      go_wp2_with fail
      have H2 := Hd (show 0 = 9 * 0 ∧ wq.ownsRow wq.heap.size 5 1 (.slice none 0 0) 0 (Lib.byteCells (lchunks (cs.take 0))) ∧ Below wq.heap.size wq wq from ⟨rfl, World.ownsRow_nil _ _ _ _, Below.refl _ _⟩)
      go_loopw [7, 8] (fun s7 s8 wl => ∃ (i n : Nat) (AO : Option Addr) (cO : Nat), s8 = .int .i64 i ∧ i ≤ cs.length ∧ s7 = .slice AO n cO ∧ Hid (n = 9 * i ∧ wl.ownsRow wq.heap.size 5 1 (.slice AO n cO) n (Lib.byteCells (lchunks (cs.take i))) ∧ Below wq.heap.size wq wl)) (fun _ s _ => cs.length - (intOf s).toNat)
      case atStart => exact ⟨0, 0, none, 0, rfl, Nat.zero_le _, rfl, H2⟩
      case round =>
        clear H2
        obtain ⟨i, n, AO, cO, rfl, hi', rfl, HB⟩ := hrel
        by_cases hlt : i < cs.length
        · have a0 : (0 : Int) ≤ (i : Int) := by omega
          have a1 : (i : Int) < (cs.length : Int) := by omega
          obtain ⟨ad, rfl, hbl, hx⟩ := (show ReadsU wr wq.heap.size AP cs from Reads.below HRD.out HB.out.2.2).get hlt
          have hcv9 := HLT.out _ (List.getElem_mem hlt)
          generalize hcv : cs[i] = cv at hx hcv9
          have HCV := Hd hcv
          have hsz := HB.out.2.2.size
          have q1 : (ad.add i).block < wr.heap.size := by rw [block_of_add]; omega
          have HLTI := Hd hlt
          have HCV9 := Hd (show cv < 4294967296 by omega)
          clear hcv hcv9
          go_wp2_with fail
          have H3 := Hd (show n = 9 * i + 0 ∧ ([] : List UInt8).length = 0 ∧ ldig 9 cv = [] ++ ldig (9 - 0) cv ∧ wr.ownsRow wq.heap.size 5 1 (.slice AO n cO) n (Lib.byteCells (lchunks (cs.take i) ++ [])) ∧ Below wq.heap.size wq wr from ⟨HB.out.1, rfl, rfl, by rw [List.append_nil]; exact HB.out.2.1, HB.out.2.2⟩)
          clear HB hx
          go_loopw [7, 9, 10] (fun s7 s9 s10 wl => ∃ (k m p : Nat) (AO : Option Addr) (cO : Nat) (ds : List UInt8), s10 = .int .i64 k ∧ k ≤ 9 ∧ s9 = .int .u32 p ∧ p < 4294967296 ∧ s7 = .slice AO m cO ∧ Hid (m = 9 * i + k ∧ ds.length = k ∧ ldig 9 cv = ds ++ ldig (9 - k) p ∧ wl.ownsRow wq.heap.size 5 1 (.slice AO m cO) m (Lib.byteCells (lchunks (cs.take i) ++ ds)) ∧ Below wq.heap.size wq wl)) (fun _ _ s _ => 9 - (intOf s).toNat)
          case atStart => exact ⟨0, n, cv, AO, cO, [], rfl, by omega, rfl, HCV9.out, rfl, H3⟩
          case round =>
            clear H3
            obtain ⟨k, m, p, AO, cO, ds, rfl, hk, rfl, hp, rfl, HI⟩ := hrel
            have hmb : m ≤ 18000010 := by have := HI.out.1; omega
            by_cases hlk : k < 9
            · have b0 : (0 : Int) ≤ (p : Int) % 10 := by omega
              have b1 : (p : Int) % 10 < 10 := by omega
              have HLK := Hd hlk
              have hss := HI.out.2.2.2.2.size
              have HBY := Hd (show (Value.int .u8 (48 + (p : Int) % 10)) = .int .u8 ((UInt8.ofNat (48 + p % 10)).toNat : Int) from by
                have e : (UInt8.ofNat (48 + p % 10)).toNat = 48 + p % 10 := by simp; omega
                rw [e]; rfl)
              have HP10 := Hd (show p / 10 < 4294967296 by omega)
              go_wp2_with (
                at_builtin
                refine wpList_append_any _ rfl (.tmp 46) (.tmp 51) _ rfl wq.heap.size 5 j0 _ 1 1 Tryd.underlying57 hj hj0 hj1 hj2 rfl (by omega) (.slice AO m cO) m (Lib.byteCells (lchunks (cs.take i) ++ ds)) rfl (HI.out.2.2.2.1.alloc _) (wr.heap.size + 1) (some ⟨wr.heap.size, 0, none⟩) 1 1 [.int .u8 (48 + (p : Int) % 10)] rfl (Reads.new1 wr _ 1 _ rfl) (by intro x hx; simp at hx; subst hx; rfl) (by unfold maxLen; omega) (by omega) (by simp; omega) ?_
                intro v' w4 ho hg4 _
                obtain ⟨A5, c5, rfl⟩ := own_form (by omega) ho
                have HO4 := Hd ho
                have HL4 := Hd ((HI.out.2.2.2.2.alloc (by omega) (.cells #[.int .u8 (48 + (p : Int) % 10)] 5)).grown hg4 (by simp; omega) (fun k hk => (HI.out.2.2.2.1.lt k hk).1))
                clear ho hg4)
              have HN := Hd (show m + 1 = 9 * i + (k + 1) ∧ (ds ++ [UInt8.ofNat (48 + p % 10)]).length = k + 1 ∧ ldig 9 cv = (ds ++ [UInt8.ofNat (48 + p % 10)]) ++ ldig (9 - (k + 1)) (p / 10) ∧ w4.ownsRow wq.heap.size 5 1 (.slice A5 (m + 1) c5) (m + 1) (Lib.byteCells (lchunks (cs.take i) ++ (ds ++ [UInt8.ofNat (48 + p % 10)]))) ∧ Below wq.heap.size wq w4 from
                ⟨by have := HI.out.1; omega, by rw [List.length_append, HI.out.2.1]; rfl, by
                  have h1 := HI.out.2.2.1
                  rw [ldig_more (9 - k) p (by have := HLK.out; omega)] at h1
                  rw [h1, List.append_assoc, Nat.sub_sub]; rfl, by
                  have h1 := HO4.out
                  rw [HBY.out] at h1
                  rw [← List.append_assoc, Lib.byteCells_append (lchunks (cs.take i) ++ ds)]
                  exact h1, HL4.out⟩)
              have HK9 := Hd (show k + 1 ≤ 9 from HLK.out)
              clear HO4 HL4 HBY HI b0 b1 hss
              go_roundw
              case rel => exact ⟨k + 1, m + 1, p / 10, A5, c5, _, by go_num, HK9.out, by go_num, HP10.out, rfl, HN⟩
              case measure => simp [intOf]; have := HLK.out; omega
            · obtain rfl : k = 9 := by omega
              have HN := Hd (show m = 9 * (i + 1) ∧ wr.ownsRow wq.heap.size 5 1 (.slice AO m cO) m (Lib.byteCells (lchunks (cs.take (i + 1)))) ∧ Below wq.heap.size wq wr from ⟨by have := HI.out.1; omega, by
                have h1 := HI.out.2.2.2.1
                have h2 := HI.out.2.2.1
                rw [show ldig (9 - 9) p = [] from rfl, List.append_nil] at h2
                rw [List.take_succ_eq_append_getElem HLTI.out, HCV.out]
                unfold lchunks at h1 ⊢
                rw [List.flatMap_append, List.flatMap_singleton, h2]
                exact h1, HI.out.2.2.2.2⟩)
              clear HI
              go_wp2_with fail
              go_roundw
              case rel => exact ⟨i + 1, m, AO, cO, by go_num, HLTI.out, rfl, HN⟩
              case measure => simp [intOf]; have := HLTI.out; omega
        · obtain rfl : i = cs.length := by omega
          obtain ⟨z0, hz⟩ := lchunks_text V HPV.out
          obtain ⟨d, r, hdr, hd48⟩ := dec_head V HPV.out
          obtain ⟨R, hR⟩ : ∃ R, R = r.reverse := ⟨_, rfl⟩
          have hown := HB.out.2.1
          have hn0 : n = R.length + z0 + 1 := by
            have h1 := congrArg List.length hz
            rw [HALL.out, lchunks_length, hdr, List.length_append, List.length_reverse, List.length_cons, List.length_replicate] at h1
            rw [HB.out.1, h1, hR, List.length_reverse]; omega
          rw [List.take_length, ← HALL.out, hz, hdr, List.reverse_cons, ← hR] at hown
          obtain ⟨g, rfl, hg, -, -⟩ := own_block hown (by omega)
          have HZZ := Hd (show (R ++ [d]).reverse = Lib.decDigits V by rw [hdr, hR]; simp)
          have HD48 := Hd hd48
          have HLWQ := Hd HB.out.2.2
          have HG := Hd hg
          have hn20 : n ≤ 20000000 := by have := HB.out.1; omega
          have HOWN := Hd hown
          obtain ⟨m0, hm0⟩ : ∃ m, n = m + 1 := ⟨R.length + z0, hn0⟩
          have HM0 := Hd (show m0 = R.length + z0 by omega)
          subst hm0
          clear hz hdr hd48 hR hown hn0 hg HB HRD HALL HLT
          go_wp2_with fail
          go_loopg [7] (z0) (fun zz s wl => ∃ m : Nat, s = .slice (some ⟨g, 0, none⟩) (m + 1) cO ∧ m + 1 ≤ 20000000 ∧ Hid (m = R.length + zz ∧ wl.ownsRow wq.heap.size 5 1 (.slice (some ⟨g, 0, none⟩) (m + 1) cO) (m + 1) (Lib.byteCells (R ++ [d] ++ List.replicate zz 48)) ∧ Below wq.heap.size wq wl))
          case atStart => exact ⟨m0, rfl, hn20, Hd ⟨HM0.out, HOWN.out, HLWQ.out⟩⟩
          case round =>
            clear HOWN HLWQ HM0 hn20
            obtain ⟨m, rfl, hm20, HB⟩ := hrel
            obtain ⟨hf, hlen⟩ := Front8.of_own HB.out.2.1
            have hcap := hf.fits
            have hml : m < (R ++ [d] ++ List.replicate gk 48).length := by omega
            have hcell := hf.cell hml
            have hglt := hf.lt
            have a0 : (0 : Int) ≤ (m : Int) := by omega
            have a1 : (m : Int) + 1 ≤ (cO : Int) := by omega
            have a2 : (m : Int) ≤ (cO : Int) := by omega
            rcases Nat.eq_zero_or_pos gk with h0 | h0
            · subst h0
              have hmR : m = R.length := HB.out.1
              have e1 : (R ++ [d] ++ List.replicate 0 48)[m] = d := by subst hmR; simp
              rw [e1] at hcell
              have hd0 : ((d.toNat : Int) == 48) = false := by
                have := HD48.out
                have h2 : d.toNat ≠ 48 := fun e => this (UInt8.toNat_inj.1 e)
                simp; omega
              obtain ⟨l_x, x0, x1, -, -⟩ := (HPX.out.below (show Below wq.heap.size wq wr from HB.out.2.2)).facts
              have hgw := HG.out
              have HLW9 := Hd (belowTo HLW.out HB.out.2.2)
              have HBE := Hd HB.out.2.2
              rw [show R ++ [d] ++ List.replicate 0 48 = R ++ [d] by simp] at hf
              have hown := HB.out.2.1
              rw [show R ++ [d] ++ List.replicate 0 48 = R ++ [d] by simp] at hown
              have hlen' : (R ++ [d]).length = m + 1 := by simp; omega
              have HLN := Hd hlen'
              have HF := Hd hf
              have HOW := Hd hown
              clear e1 hml hlen hf HB hmR hown hlen'
              cases n1
              case' false =>
                go_wp2_with fail
                have H5 := Hd (show (R ++ [d]).reverse = z ∧ (R ++ [d]).length = m + 1 ∧ (∃ ys, Front8 wr g cO ys ∧ Rev (R ++ [d]) 0 ys ∧ Below wq.heap.size wq wr) from ⟨by rw [HZ.out, HZZ.out]; rfl, HLN.out, _, HF.out, Rev.start _, HBE.out⟩)
                obtain ⟨M, hM⟩ : ∃ M, M = R ++ [d] := ⟨_, rfl⟩
                obtain ⟨N, hN⟩ : ∃ N, N = m + 1 := ⟨_, rfl⟩
                have hN2 : N ≤ 20000001 := by omega
                obtain ⟨g5, hg5⟩ : ∃ q, q = g := ⟨_, rfl⟩
                obtain ⟨c5, hc5⟩ : ∃ q, q = cO := ⟨_, rfl⟩
                have HGE := Hd hgw
                rw [← hM, ← hN, ← hg5, ← hc5] at H5
                rw [← hg5] at HGE
                rw [← hN, ← hg5, ← hc5]
                clear hM hN hg5 hc5
              case' true =>
                go_wp2_with (
                  at_builtin
                  refine wpList_append_any _ rfl (.tmp 69) (.tmp 70) _ rfl wq.heap.size 5 j0 _ 1 1 Tryd.underlying57 hj hj0 hj1 hj2 rfl (by omega) (.slice (some ⟨g, 0, none⟩) (m + 1) cO) (m + 1) (Lib.byteCells (R ++ [d])) rfl (HOW.out.alloc _) (wr.heap.size + 1) (some ⟨wr.heap.size, 0, none⟩) 1 1 [.int .u8 45] rfl (Reads.new1 wr _ 1 _ rfl) (by intro x hx; simp at hx; subst hx; rfl) (by unfold maxLen; omega) (by omega) (by simp; have := HBE.out.size; omega) ?_
                  intro v' w4 ho hg4 _
                  obtain ⟨A5, c5, rfl⟩ := own_form (by omega) ho
                  obtain ⟨g5, rfl, hg5, -, -⟩ := own_block ho (by omega)
                  have HO4 := Hd ho
                  have HL4 := Hd ((HBE.out.alloc (by have := HBE.out.size; omega) (.cells #[.int .u8 45] 5)).grown hg4 (by have := HBE.out.size; simp; omega) (fun k hk => (HOW.out.lt k hk).1))
                  clear ho hg4)
                have hown5 : w4.ownsRow wq.heap.size 5 1 (.slice (some ⟨g5, 0, none⟩) (m + 1 + 1) c5) (m + 1 + 1) (Lib.byteCells (R ++ [d] ++ [45])) := by
                  rw [Lib.byteCells_append]; exact HO4.out
                obtain ⟨hf5, hl5⟩ := Front8.of_own hown5
                have H5 := Hd (show (R ++ [d] ++ [45]).reverse = z ∧ (R ++ [d] ++ [45]).length = m + 1 + 1 ∧ (∃ ys, Front8 w4 g5 c5 ys ∧ Rev (R ++ [d] ++ [45]) 0 ys ∧ Below wq.heap.size wq w4) from ⟨by rw [HZ.out, List.reverse_append, HZZ.out]; rfl, hl5, _, hf5, Rev.start _, HL4.out⟩)
                obtain ⟨M, hM⟩ : ∃ M, M = R ++ [d] ++ [45] := ⟨_, rfl⟩
                obtain ⟨N, hN⟩ : ∃ N, N = m + 1 + 1 := ⟨_, rfl⟩
                have hN2 : N ≤ 20000001 := by omega
                have HLW9 := Hd (belowTo HLW.out HL4.out)
                have HGE := Hd hg5
                rw [← hM, ← hN] at H5
                rw [← hN]
                clear hM hN hown5 hf5 hl5 HO4 HL4 hg5
              all_goals
                clear HF HOW HLN hcell hd0 l_x x0 x1 HBE
                have HMZ := Hd H5.out.1
                have HMN := Hd H5.out.2.1
                have H6 := Hd H5.out.2.2
                clear H5
                go_loopw [11] (fun s wl => ∃ i : Nat, s = .int .i64 i ∧ i ≤ N ∧ Hid (∃ ys, Front8 wl g5 c5 ys ∧ Rev M i ys ∧ Below wq.heap.size wq wl)) (fun s _ => N - (intOf s).toNat)
                case atStart => exact ⟨0, rfl, Nat.zero_le _, H6⟩
                case round =>
                  clear H6
                  obtain ⟨i, rfl, hiN, HB⟩ := hrel
                  obtain ⟨ys, hf, hr, hb⟩ := HB.out
                  have hlen := hr.1
                  have hMN := HMN.out
                  have hglt := hf.lt
                  have hge := HGE.out
                  by_cases hlt : 2 * i + 1 < N
                  · obtain ⟨k, hk, hik⟩ : ∃ k, N = i + k + 1 ∧ i < k := ⟨N - 1 - i, by omega, by omega⟩
                    have hi1 : i < ys.length := by omega
                    have hk1 : k < ys.length := by omega
                    have hnx := hr.next (show M.length = i + k + 1 by omega) hik
                    rw [← hr.at_ (j := i) (by omega) (Nat.le_refl _) (by omega), ← hr.at_ (j := k) (by omega) (by omega) (by omega)] at hnx
                    have c1 := hf.cell hi1
                    have c2 := hf.cell hk1
                    have f1 := hf.frozen i
                    have f2 := hf.frozen k
                    generalize ys[i] = a at c1 hnx
                    generalize ys[k] = b at c2 hnx
                    have HN := Hd (show ∃ zs, Front8 ((wr.setCell ⟨g5, i, none⟩ (.int .u8 (b.toNat : Int))).setCell ⟨g5, k, none⟩ (.int .u8 (a.toNat : Int))) g5 c5 zs ∧ Rev M (i + 1) zs ∧ Below wq.heap.size wq ((wr.setCell ⟨g5, i, none⟩ (.int .u8 (b.toNat : Int))).setCell ⟨g5, k, none⟩ (.int .u8 (a.toNat : Int))) from
                      ⟨_, (hf.set hi1 b).set (by simpa using hk1) a, hnx, (hb.setCell (p := ⟨g5, i, none⟩) hge _).setCell (p := ⟨g5, k, none⟩) hge _⟩)
                    have d1 : 2 * (i : Int) < (N : Int) - 1 := by omega
                    have d2 : (N : Int) - 1 - (i : Int) = (k : Int) := by omega
                    have d3 : (0 : Int) ≤ (i : Int) := by omega
                    have d4 : (i : Int) < (N : Int) := by omega
                    have d5 : (k : Int) < (N : Int) := by omega
                    have d6 : (0 : Int) ≤ (k : Int) := by omega
                    have HI1 := Hd (show i + 1 ≤ N ∧ i < N by omega)
                    clear hnx hf hr hb HB hlen hMN hi1 hk1 hk hlt hik
                    go_wp2_with fail
                    go_roundw
                    case rel => exact ⟨i + 1, by go_num, HI1.out.1, HN⟩
                    case measure => simp [intOf]; have := HI1.out.2; omega
                  · have hys : ys = z := by rw [hr.done (by omega), HMZ.out]
                    rw [hys] at hf hlen
                    have hcv : (convert 57 9 (.slice (some ⟨g5, 0, none⟩) N c5)).run Tryd.prog wr = .ok (.string ⟨z.toArray⟩) wr := by
                      have h1 := run_convert_bytes_back (P := Tryd.prog) wr 57 9 5 ⟨g5, 0, none⟩ c5 z Tryd.underlying57 Tryd.underlying5 Tryd.underlying9 (fun j hj => by
                        rw [show (⟨g5, 0, none⟩ : Addr).add j = ⟨g5, j, none⟩ by unfold Addr.add; split <;> simp_all]
                        exact hf.cell hj)
                      rw [hlen, hMN] at h1
                      exact h1
                    have d1 : (N : Int) - 1 ≤ 2 * (i : Int) := by omega
                    have HFIN := Hd (belowTo HLW.out hb)
                    clear hf hr hb HB hlen hMN hys hlt HZ
                    go_wp2_with fail
                    go_ret
                    exact ⟨rfl, HFIN.out⟩
            · obtain ⟨q, rfl⟩ : ∃ q, gk = q + 1 := ⟨gk - 1, by omega⟩
              have hmR : m = R.length + (q + 1) := HB.out.1
              have e1 : (R ++ [d] ++ List.replicate (q + 1) 48)[m] = 48 := by
                rw [List.getElem_append_right (by simp; omega)]
                simp
              rw [e1] at hcell
              have HN := Hd (show m - 1 = R.length + q ∧ wr.ownsRow wq.heap.size 5 1 (.slice (some ⟨g, 0, none⟩) (m - 1 + 1) cO) (m - 1 + 1) (Lib.byteCells (R ++ [d] ++ List.replicate q 48)) ∧ Below wq.heap.size wq wr from ⟨by omega, by
                have h1 := row_cut HB.out.2.1 (m := m - 1 + 1) (by omega)
                rw [List.replicate_succ', ← List.append_assoc, Lib.byteCells_append, List.take_left' (by rw [Lib.byteCells_length]; simp; omega)] at h1
                exact h1, HB.out.2.2⟩)
              have HMM := Hd (show m - 1 + 1 = m by omega)
              clear e1 hml hlen hf HB h0 hmR
              go_wp2_with fail
              go_roundg q
              case measure => omega
              case rel => exact ⟨m - 1, by rw [HMM.out], by omega, HN⟩
    · have hlen : decide (0 < (natL gk).length) = true := decide_eq_true (by
        rcases Nat.eq_zero_or_pos (natL gk).length with e | e
        · have := natL_eq_nil.1 (List.eq_nil_of_length_eq_zero e)
          omega
        · exact e)
      have hcnt := rcount HR.out.big h0 HV.out
      have C1 := Hd (ref_short AL cL 1000000000 (natL gk) (by omega) (by omega) (by have := HV.out; have := natL_mono (show gk ≤ V from Nat.le_trans (Nat.le_mul_of_pos_right _ (Nat.two_pow_pos _)) HR.out.big); omega) wr HR.out.raw)
      rw [val_natL] at C1
      go_wp2_with fail
      refine C1.out.mono ?_
      rintro e w2 ⟨v2, rfl, hO, hb⟩
      obtain ⟨A2, c2, rfl, q1, q2, q3⟩ := hO.form
      have how := own_below HR.out.parts hb
      have hs1 := HR.out.low.size
      have hs2 := hb.size
      have HQ := Hd q3
      have HQ2 := Hd (And.intro q1 q2)
      have HPX := Hd (HR.out.px.below hb)
      have HLW := Hd (belowTo HR.out.low hb)
      have HPL := Hd HR.out.parts.lt
      have HALL := Hd (And.intro HR.out.all HR.out.big)
      have HCNT := Hd hcnt
      have HK0 := Hd h0
      have hlx := HR.out.px.blk.lt
      clear hO q1 q2 q3 hb hcnt h0 HR C1 hlen
      go_wp2_with (
        at_builtin
        refine wpList_append_any _ rfl (.tmp 27) (.tmp 29) _ rfl (w.heap.size + 1) 40 i0 _ 1 4 Tryd.underlying22 hi hz0 hz1 hz2 rfl (by omega) (.slice AP cs.length cP) cs.length (cellsU cs) rfl (how.alloc _) (w2.heap.size + 1) (some ⟨w2.heap.size, 0, none⟩) 1 1 [.int .u32 ((gk % 1000000000 : Nat) : Int)] rfl (Reads.new1 w2 _ 1 _ rfl) (by intro x hx; simp at hx; subst hx; rfl) (by unfold maxLen; have := HCNT.out; have := HV.out; omega) (by have := HCNT.out; have := HV.out; omega) (by simp; omega) ?_
        intro v' w4 ho hg4 hat
        obtain ⟨A5, c5, rfl⟩ := own_form (by omega) ho
        have hq := (HQ.out.alloc (.cells #[.int .u32 ((gk % 1000000000 : Nat) : Int)] 40)).kept hg4 (by
          cases A2 with
          | none => exact .inl rfl
          | some b => exact .inr (fun e => by have h1 := (HQ.out.lt b.block rfl).1; have h2 := (HPL.out b.block e.symm).2; omega))
        have HRW := Hd (show Raw w4 A2 c2 (natL (gk / 1000000000)) from ⟨limbs_natL _, HQ2.out.1, HQ2.out.2, Reads.of_own hq⟩)
        have HPX4 := Hd ((HPX.out.alloc (.cells #[.int .u32 ((gk % 1000000000 : Nat) : Int)] 40)).grown hg4 (fun e => by
          have := (how.lt _ e.symm).1
          omega))
        have HL4 := Hd ((HLW.out.alloc (by omega) (.cells #[.int .u32 ((gk % 1000000000 : Nat) : Int)] 40)).grown hg4 (by simp; omega) (fun k hk => by have := (how.lt k hk).1; omega))
        have HO4 := Hd ho
        clear ho hg4 hat hq)
      have HN := Hd (show Rd w w4 n1 (.slice A (natL V).length c) V (gk / 1000000000) (cs ++ [gk % 1000000000]) A5 c5 A2 c2 from
        ⟨HL4.out, HRW.out, by
          have e : cellsU (cs ++ [gk % 1000000000]) = cellsU cs ++ [.int .u32 ((gk % 1000000000 : Nat) : Int)] := by simp [cellsU]
          rw [e, List.length_append, List.length_singleton]; exact HO4.out, HPX4.out, by
          rw [HALL.out.1, chunks_cons (by have := HK0.out; omega)]; simp, by
          rw [List.length_append, List.length_singleton]; exact rbig HALL.out.2, by
          rw [List.length_append, List.length_singleton]; have := HCNT.out; have := HV.out; omega⟩)
      have HM := Hd (show gk / 1000000000 < gk from Nat.div_lt_self HK0.out (by omega))
      clear HL4 HRW HO4 HPX4 HALL HCNT HK0 HQ HQ2 HPX HLW HPL how hs1 hs2 hlx
      go_wp2_with fail
      go_roundg (gk / 1000000000)
      case measure => exact HM.out
      case rel => exact ⟨A5, c5, cs ++ [gk % 1000000000], A2, c2, by simp, rfl, HN⟩

theorem ref_digits_nought (n1 : Bool) (A : Option Addr) (c : Nat) (w : World) :
    Calls Tryd.prog 22 #[.agg #[.bool n1, .slice A ([] : List Nat).length c]] w fun e w' => e = .returned (.string ⟨#[48]⟩) ∧ Below w.heap.size w w' := by
  have b0 := (Below.refl w.heap.size w).alloc (Nat.le_refl _) (.cells #[.bool n1, .slice A ([] : List Nat).length c] 24)
  have HB := Hd b0
  clear b0
  go_enter Tryd.func22, Tryd.ntmps22
  go_wp2_with fail
  go_ret
  exact ⟨rfl, HB.out⟩
theorem ref_Digits (n1 : Bool) (A : Option Addr) (c : Nat) (xs : List Nat) (hcx : Canon xs) (hl : xs.length ≤ 1000000) (w : World) (h : Raw w A c xs) :
    Calls Tryd.prog 22 #[.agg #[.bool n1, .slice A xs.length c]] w fun e w' => e = .returned (.string ⟨(Lib.itoa (ival n1 xs)).toArray⟩) ∧ Below w.heap.size w w' := by
  by_cases hx : xs = []
  · subst hx
    have e : Lib.itoa (ival n1 []) = [48] := by
      have : ival n1 [] = ((0 : Nat) : Int) := by unfold ival; cases n1 <;> rfl
      rw [this, Lib.itoa_nonneg, Lib.decDigits_one (by omega)]; rfl
    rw [e]
    exact ref_digits_nought n1 A c w
  · refine ref_digits_more n1 A c xs hx hcx hl _ (Hd ?_) w h
    have hp : 0 < val xs := by
      rcases Nat.eq_zero_or_pos (val xs) with h0 | h0
      · have := natL_val h.limbs hcx
        rw [h0, natL_zero] at this
        exact absurd this.symm hx
      · exact h0
    unfold ival
    cases n1
    · simp [Lib.itoa_nonneg]
    · simp only [if_true]
      rw [Lib.itoa_neg _ hp]
/- told, Add, Sub, Mul of package whole and of the references. (Written by wip/exact/gentold.py.) -/

theorem toldV_fits {z : Int} (h : (natL z.natAbs).length ≤ 2048) : toldV z = z := by unfold toldV; rw [if_pos h]
theorem toldE_fits {z : Int} (h : (natL z.natAbs).length ≤ 2048) : toldE z = 0 := by unfold toldE; rw [if_pos h]
theorem toldV_long {z : Int} (h : 2048 < (natL z.natAbs).length) : toldV z = 0 := by unfold toldV; rw [if_neg (by omega)]
theorem toldE_long {z : Int} (h : 2048 < (natL z.natAbs).length) : toldE z = 4 := by unfold toldE; rw [if_neg (by omega)]
theorem IntOwn.value {w : World} {base : Nat} {v : Value} {x : Int} (h : IntOwn w base v x) : ∃ A c, v = .agg #[.bool (decide (x < 0)), .slice A (natL x.natAbs).length c] ∧ (natL x.natAbs).length ≤ 9223372036854775807 := by
  obtain ⟨A, c, h1, h2, h3, _⟩ := h.form
  exact ⟨A, c, h1, by omega⟩

theorem whole_told_fits (b : Bool) (A : Option Addr) (n c : Nat) (hn : n ≤ 9223372036854775807) (hf : n ≤ 2048) (w : World) :
    Calls Tryd.prog 20 #[.agg #[.bool b, .slice A n c]] w fun e w' => e = .returned (.tuple #[.agg #[.bool b, .slice A n c], .int .i64 0]) ∧ Below w.heap.size w w' := by
  have pr := Pair.new (w.alloc (.cells #[.bool b, .slice A n c] 24)) 24 (.bool false) (.slice none 0 0)
  have px := (Pair.new w 24 (.bool b) (.slice A n c)).alloc (.cells #[.bool false, .slice none 0 0] 24)
  have b0 := ((Below.refl w.heap.size w).alloc (Nat.le_refl _) (.cells #[.bool b, .slice A n c] 24)).alloc (by simp) (.cells #[.bool false, .slice none 0 0] 24)
  simp only [World.size_alloc] at pr
  have C1 := fun (V : World) (g : Nat) (hg : V.heap.size = g) => exact_Long (some ⟨g, 0, none⟩) 1 [(b, A, n, c)] (by simp) (by simp; omega) (V.alloc (.cells #[.bool b, .slice A n c] 24)) (by subst hg; exact (Reads.new1 V 24 2 [.bool b, .slice A n c] rfl).more (by simp))
  simp only [List.any_cons, List.any_nil, Bool.or_false, List.length_singleton] at C1
  rw [decide_eq_false (show ¬ 2048 < n from by omega)] at C1
  have C := Hd C1
  clear C1
  have PX := Hd px
  have PR := Hd pr
  have B0 := Hd b0
  clear px pr b0
  go_enter Tryd.func20, Tryd.ntmps20
  go_wp2_with (go_at_call 40; with_reducible refine (C.out _ _ (by simp)).mono ?_; rintro e w' ⟨rfl, hb⟩; have px := (PX.out.alloc _).below hb; have pr := (PR.out.alloc _).below hb; have B1 := belowTo (B0.out.alloc B0.out.size _) hb; have hl0 := B0.out.size; obtain ⟨l1, x0, x1, f0, f1⟩ := px.facts; obtain ⟨l2, y0, y1, g0, g1⟩ := pr.facts)
  have hq := pr.store (.bool b) (.slice A n c)
  obtain ⟨_, k0, k1, _, _⟩ := hq.facts
  exact bodyPost_ret (by simp [results, Tryd.results20, go_sem, k0, k1]) rfl ⟨rfl, below2 B1 (by omega) _ _⟩

theorem whole_told_long (b : Bool) (A : Option Addr) (n c : Nat) (hn : n ≤ 9223372036854775807) (hf : 2048 < n) (w : World) :
    Calls Tryd.prog 20 #[.agg #[.bool b, .slice A n c]] w fun e w' => e = .returned (.tuple #[.agg #[.bool false, .slice none 0 0], .int .i64 4]) ∧ Below w.heap.size w w' := by
  have pr := Pair.new (w.alloc (.cells #[.bool b, .slice A n c] 24)) 24 (.bool false) (.slice none 0 0)
  have px := (Pair.new w 24 (.bool b) (.slice A n c)).alloc (.cells #[.bool false, .slice none 0 0] 24)
  have b0 := ((Below.refl w.heap.size w).alloc (Nat.le_refl _) (.cells #[.bool b, .slice A n c] 24)).alloc (by simp) (.cells #[.bool false, .slice none 0 0] 24)
  simp only [World.size_alloc] at pr
  have C1 := fun (V : World) (g : Nat) (hg : V.heap.size = g) => exact_Long (some ⟨g, 0, none⟩) 1 [(b, A, n, c)] (by simp) (by simp; omega) (V.alloc (.cells #[.bool b, .slice A n c] 24)) (by subst hg; exact (Reads.new1 V 24 2 [.bool b, .slice A n c] rfl).more (by simp))
  simp only [List.any_cons, List.any_nil, Bool.or_false, List.length_singleton] at C1
  rw [decide_eq_true (show 2048 < n from hf)] at C1
  have C := Hd C1
  clear C1
  have PX := Hd px
  have PR := Hd pr
  have B0 := Hd b0
  clear px pr b0
  go_enter Tryd.func20, Tryd.ntmps20
  go_wp2_with (go_at_call 40; with_reducible refine (C.out _ _ (by simp)).mono ?_; rintro e w' ⟨rfl, hb⟩; have px := (PX.out.alloc _).below hb; have pr := (PR.out.alloc _).below hb; have B1 := belowTo (B0.out.alloc B0.out.size _) hb; have hl0 := B0.out.size; obtain ⟨l1, x0, x1, f0, f1⟩ := px.facts; obtain ⟨l2, y0, y1, g0, g1⟩ := pr.facts)
  have hq := pr.store (.bool false) (.slice none 0 0)
  obtain ⟨_, k0, k1, _, _⟩ := hq.facts
  exact bodyPost_ret (by simp [results, Tryd.results20, go_sem, k0, k1]) rfl ⟨rfl, below2 B1 (by omega) _ _⟩

theorem whole_told (base : Nat) (v : Value) (z : Int) (w : World) (h : IntOwn w base v z) :
    Calls Tryd.prog 20 #[v] w (RetInt2 base w (toldV z) (toldE z)) := by
  obtain ⟨A, c, rfl, hn⟩ := h.value
  by_cases hf : (natL z.natAbs).length ≤ 2048
  · rw [toldV_fits hf, toldE_fits hf]
    refine (whole_told_fits _ A _ c hn hf w).mono ?_
    rintro e w' ⟨rfl, hb⟩
    exact ⟨_, rfl, h.below hb, hb⟩
  · rw [toldV_long (by omega), toldE_long (by omega)]
    refine (whole_told_long _ A _ c hn (by omega) w).mono ?_
    rintro e w' ⟨rfl, hb⟩
    exact ⟨_, rfl, IntOwn.nought _ _, hb⟩

theorem ref_told_fits (b : Bool) (A : Option Addr) (n c : Nat) (hn : n ≤ 9223372036854775807) (hf : n ≤ 2048) (w : World) :
    Calls Tryd.prog 24 #[.agg #[.bool b, .slice A n c]] w fun e w' => e = .returned (.tuple #[.agg #[.bool b, .slice A n c], .int .i64 0]) ∧ Below w.heap.size w w' := by
  have pr := Pair.new (w.alloc (.cells #[.bool b, .slice A n c] 24)) 24 (.bool false) (.slice none 0 0)
  have px := (Pair.new w 24 (.bool b) (.slice A n c)).alloc (.cells #[.bool false, .slice none 0 0] 24)
  have b0 := ((Below.refl w.heap.size w).alloc (Nat.le_refl _) (.cells #[.bool b, .slice A n c] 24)).alloc (by simp) (.cells #[.bool false, .slice none 0 0] 24)
  simp only [World.size_alloc] at pr
  have C1 := fun (V : World) => ref_Long b A n c hn V
  rw [decide_eq_false (show ¬ 2048 < n from by omega)] at C1
  have C := Hd C1
  clear C1
  have PX := Hd px
  have PR := Hd pr
  have B0 := Hd b0
  clear px pr b0
  go_enter Tryd.func24, Tryd.ntmps24
  go_wp2_with (go_at_call 46; with_reducible refine (C.out _).mono ?_; rintro e w' ⟨rfl, hb⟩; have px := PX.out.below hb; have pr := PR.out.below hb; have B1 := belowTo B0.out hb; have hl0 := B0.out.size; obtain ⟨l1, x0, x1, f0, f1⟩ := px.facts; obtain ⟨l2, y0, y1, g0, g1⟩ := pr.facts)
  have hq := pr.store (.bool b) (.slice A n c)
  obtain ⟨_, k0, k1, _, _⟩ := hq.facts
  exact bodyPost_ret (by simp [results, Tryd.results24, go_sem, k0, k1]) rfl ⟨rfl, below2 B1 (by omega) _ _⟩

theorem ref_told_long (b : Bool) (A : Option Addr) (n c : Nat) (hn : n ≤ 9223372036854775807) (hf : 2048 < n) (w : World) :
    Calls Tryd.prog 24 #[.agg #[.bool b, .slice A n c]] w fun e w' => e = .returned (.tuple #[.agg #[.bool false, .slice none 0 0], .int .i64 4]) ∧ Below w.heap.size w w' := by
  have pr := Pair.new (w.alloc (.cells #[.bool b, .slice A n c] 24)) 24 (.bool false) (.slice none 0 0)
  have px := (Pair.new w 24 (.bool b) (.slice A n c)).alloc (.cells #[.bool false, .slice none 0 0] 24)
  have b0 := ((Below.refl w.heap.size w).alloc (Nat.le_refl _) (.cells #[.bool b, .slice A n c] 24)).alloc (by simp) (.cells #[.bool false, .slice none 0 0] 24)
  simp only [World.size_alloc] at pr
  have C1 := fun (V : World) => ref_Long b A n c hn V
  rw [decide_eq_true (show 2048 < n from hf)] at C1
  have C := Hd C1
  clear C1
  have PX := Hd px
  have PR := Hd pr
  have B0 := Hd b0
  clear px pr b0
  go_enter Tryd.func24, Tryd.ntmps24
  go_wp2_with (go_at_call 46; with_reducible refine (C.out _).mono ?_; rintro e w' ⟨rfl, hb⟩; have px := PX.out.below hb; have pr := PR.out.below hb; have B1 := belowTo B0.out hb; have hl0 := B0.out.size; obtain ⟨l1, x0, x1, f0, f1⟩ := px.facts; obtain ⟨l2, y0, y1, g0, g1⟩ := pr.facts)
  have hq := pr.store (.bool false) (.slice none 0 0)
  obtain ⟨_, k0, k1, _, _⟩ := hq.facts
  exact bodyPost_ret (by simp [results, Tryd.results24, go_sem, k0, k1]) rfl ⟨rfl, below2 B1 (by omega) _ _⟩

theorem ref_told (base : Nat) (v : Value) (z : Int) (w : World) (h : IntOwn w base v z) :
    Calls Tryd.prog 24 #[v] w (RetInt2 base w (toldV z) (toldE z)) := by
  obtain ⟨A, c, rfl, hn⟩ := h.value
  by_cases hf : (natL z.natAbs).length ≤ 2048
  · rw [toldV_fits hf, toldE_fits hf]
    refine (ref_told_fits _ A _ c hn hf w).mono ?_
    rintro e w' ⟨rfl, hb⟩
    exact ⟨_, rfl, h.below hb, hb⟩
  · rw [toldV_long (by omega), toldE_long (by omega)]
    refine (ref_told_long _ A _ c hn (by omega) w).mono ?_
    rintro e w' ⟨rfl, hb⟩
    exact ⟨_, rfl, IntOwn.nought _ _, hb⟩

end Go.Proofs.YtbdliabfdplohaaDoor
