/- Several texts in one: RefDigits, RText, RRead, FParse, GText. -/
import Derived.Laws.IdiomStrings
import Derived.Test.YtdonecnhdkjniaaGreatDoorGx30
set_option maxRecDepth 100000
set_option maxHeartbeats 8000000
namespace Go.Proofs.YtdonecnhdkjniaaGreatDoor
open Go.RowKit

theorem byteInfoR : (Tryz.prog.info? 5).map (fun i => (i.zero, i.size, i.bytes)) = some (some (.int .u8 0), 1, 1) := by kernel_rfl
theorem rcount {V v k L : Nat} (hb : v * 2 ^ (29 * k) <= V) (hv : 0 < v) (hV : (Za V).length <= L) : k <= 2 * L := by
 have h1 : V < 2 ^ (32 * L) := by
  have := ZN.1 hV
  rw [show 4294967296 = 2 ^ 32 by decide, <- Nat.pow_mul] at this
  exact this
 have h2 : 2 ^ (29 * k) <= V := Nat.le_trans (Nat.le_mul_of_pos_left _ hv) hb
 have h3 : 2 ^ (29 * k) < 2 ^ (32 * L) := by omega
 have := (Nat.pow_lt_pow_iff_right (by omega)).1 h3
 omega
theorem rbig {v n V : Nat} (h : v * 2 ^ (29 * n) <= V) : v / 1000000000 * 2 ^ (29 * (n + 1)) <= V := by
 rw [Nat.mul_add, Nat.mul_one, Nat.pow_add]
 generalize 2 ^ (29 * n) = p at *
 have h1 : v / 1000000000 * 2 ^ 29 <= v := by
  have : (2 : Nat) ^ 29 <= 1000000000 := by decide
  calc v / 1000000000 * 2 ^ 29 <= v / 1000000000 * 1000000000 := Nat.mul_le_mul_left _ this
   _ <= v := Nat.div_mul_le_self _ _
 calc v / 1000000000 * (p * 2 ^ 29) = v / 1000000000 * 2 ^ 29 * p := by rw [Nat.mul_comm p, Nat.mul_assoc]
  _ <= v * p := Nat.mul_le_mul_right _ h1
  _ <= V := h
structure Rd (w wr : World) (n1 : Bool) (S : Value) (V v : Nat) (cs : List Nat) (AP : Option Addr) (cP : Nat) (AL : Option Addr) (cL : Nat) : Prop where
 low : Below w.heap.size w wr
 raw : Zm wr AL cL (Za v)
 parts : wr.ownsRow (w.heap.size + 1) 109 1 (.slice AP cs.length cP) cs.length (Zh cs)
 px : Zr wr w.heap.size 24 (.bool n1) S
 all : XM V = cs ++ XM v
 big : v * 2 ^ (29 * cs.length) <= V
 few : cs.length <= 2000001
def Rev (M : List UInt8) (i : Nat) (ys : List UInt8) : Prop := ys.length = M.length /\ ∀ j, j < M.length -> ys[j]? = if j < i ∨ M.length <= j + i then M[M.length - 1 - j]? else M[j]?
theorem Rev.start (M : List UInt8) : Rev M 0 M := ⟨rfl, fun j hj => by rw [if_neg (by omega)]⟩
theorem Rev.done {M ys : List UInt8} {i : Nat} (h : Rev M i ys) (hi : M.length <= 2 * i + 1) : ys = M.reverse := by
 apply List.ext_getElem?
 intro j
 rcases Nat.lt_or_ge j M.length with hj | hj
 . rw [h.2 j hj, List.getElem?_reverse hj]
   split
   . rfl
   . rw [show M.length - 1 - j = j by omega]
 . rw [List.getElem?_eq_none (by rw [h.1]; exact hj), List.getElem?_eq_none (by simpa using hj)]
theorem Rev.at_ {M ys : List UInt8} {i j : Nat} (h : Rev M i ys) (hj : j < M.length) (h1 : i <= j) (h2 : j + i < M.length) : ys[j]'(by rw [h.1]; exact hj) = M[j] := by
 have := h.2 j hj
 rw [if_neg (by omega), List.getElem?_eq_getElem hj, List.getElem?_eq_getElem (by rw [h.1]; exact hj)] at this
 exact Option.some.inj this
theorem Rev.next {M ys : List UInt8} {i k : Nat} (h : Rev M i ys) (hk : M.length = i + k + 1) (hik : i < k) : Rev M (i + 1) ((ys.set i (M[k]'(by omega))).set k (M[i]'(by omega))) := by
 refine ⟨by simp [h.1], fun j hj => ?_⟩
 rw [List.getElem?_set]
 by_cases e1 : k = j
 . subst e1
   rw [if_pos rfl, if_pos (by simp [h.1]; omega), if_pos (by omega), show M.length - 1 - k = i by omega, List.getElem?_eq_getElem (by omega)]
 . rw [if_neg e1, List.getElem?_set]
   by_cases e2 : i = j
   . subst e2
     rw [if_pos rfl, if_pos (by rw [h.1]; omega), if_pos (by omega), show M.length - 1 - i = k by omega, List.getElem?_eq_getElem (by omega)]
   . rw [if_neg e2, h.2 j hj]
     by_cases e3 : j < i ∨ M.length <= j + i
     . rw [if_pos e3, if_pos (by omega)]
     . rw [if_neg e3, if_neg (by omega)]

theorem ref_digits_more (n1 : Bool) (A : Option Addr) (c : Nat) (xs : List Nat) (hne : xs ≠ []) (hcx : ZU xs) (hl : xs.length <= 1000000) (z : List UInt8) (HZ : Hid (z = if n1 then 45 :: Lib.decDigits (val xs) else Lib.decDigits (val xs))) (w : World) (h : Zm w A c xs) :
  Calls Tryz.prog 186 #[.agg #[.bool n1, .slice A xs.length c]] w fun e w' => e = .returned (.string ⟨z.toArray⟩) /\ Below w.heap.size w w' := by
 obtain ⟨i0, hi, hz0, hz1, hz2⟩ := info_parts YC
 obtain ⟨j0, hj, hj0, hj1, hj2⟩ := info_parts byteInfoR
 have px := Zr.new w 24 (.bool n1) (.slice A xs.length c)
 have b0 := (Below.refl w.heap.size w).alloc (Nat.le_refl _) (.cells #[.bool n1, .slice A xs.length c] 24)
 have rx := h.alloc (.cells #[.bool n1, .slice A xs.length c] 24)
 obtain ⟨V, hV⟩ : ∃ V, V = val xs := ⟨_, rfl⟩
 have eV : Za V = xs := by rw [hV]; exact YU h.limbs hcx
 have hpV : V ≠ 0 := fun h0 => by rw [h0, Z8] at eV; exact hne eV.symm
 have hlen : ((xs.length : Int) == 0) = false := by
  have : xs.length ≠ 0 := fun e => hne (List.eq_nil_of_length_eq_zero e)
  simp; omega
 have hlen2 : ¬ xs = [] := hne
 rw [<- hV] at HZ
 rw [<- eV] at px b0 rx hl
 have H0 := Hd (show Rd w (w.alloc (.cells #[.bool n1, .slice A (Za V).length c] 24)) n1 (.slice A (Za V).length c) V V [] none 0 A c from ⟨b0, rx, World.ownsRow_nil _ _ _ _, px, rfl, by simp, by simp⟩)
 have HV := Hd hl
 have HPV := Hd hpV
 have HLEN := Hd hlen
 have eV2 := eV.symm
 subst eV2
 clear px b0 rx h hV hpV hcx hl hne hlen2 hlen eV
 obtain ⟨l_x, x0, x1, -, -⟩ := H0.out.px.facts
 have hlen := HLEN.out
 go_enter Tryz.func186, Tryz.ntmps186
 obtain ⟨W, E⟩ : ∃ W, W = w.alloc (.cells #[.bool n1, .slice A (Za V).length c] 24) := ⟨_, rfl⟩
 go_wp2_with fail
 rw [<- E] at H0 ⊢
 clear E l_x x0 x1 hlen HLEN
 go_loopg [3, 4] (V) (fun v p l wr => ∃ AP cP cs AL cL, p = .slice AP cs.length cP /\ l = .slice AL (Za v).length cL /\ Hid (Rd w wr n1 (.slice A (Za V).length c) V v cs AP cP AL cL))
 case atStart => exact ⟨none, 0, [], A, c, rfl, rfl, H0⟩
 case round =>
  clear H0
  obtain ⟨AP, cP, cs, AL, cL, rfl, rfl, HR⟩ := hrel
  rcases Nat.eq_zero_or_pos gk with h0 | h0
  . subst h0
    have hall := HR.out.all
    rw [JM, List.append_nil] at hall
    have hn0 : (Za 0).length = 0 := by simp [Z8]
    rw [hn0]
    have HALL := Hd hall
    have HLT := Hd (fun c hc => chunks_lt V c (by rw [hall]; exact hc) : ∀ c ∈ cs, c < 1000000000)
    have hcnt := HR.out.few
    have HRD := Hd (show Jg wr wr.heap.size AP cs from ZD.of_own HR.out.parts)
    have HPX := Hd HR.out.px
    have HLW := Hd HR.out.low
    obtain ⟨wq, hwq⟩ : ∃ wq, wq = wr := ⟨_, rfl⟩
    subst hwq
    clear hall hn0 HR
    go_wp2_with fail
    have H2 := Hd (show 0 = 9 * 0 /\ wq.ownsRow wq.heap.size 5 1 (.slice none 0 0) 0 (Lib.byteCells (Y0 (cs.take 0))) /\ Below wq.heap.size wq wq from ⟨rfl, World.ownsRow_nil _ _ _ _, Below.refl _ _⟩)
    go_loopw [7, 8] (fun s7 s8 wl => ∃ (i n : Nat) (AO : Option Addr) (cO : Nat), s8 = .int .i64 i /\ i <= cs.length /\ s7 = .slice AO n cO /\ Hid (n = 9 * i /\ wl.ownsRow wq.heap.size 5 1 (.slice AO n cO) n (Lib.byteCells (Y0 (cs.take i))) /\ Below wq.heap.size wq wl)) (fun _ s _ => cs.length - (intOf s).toNat)
    case atStart => exact ⟨0, 0, none, 0, rfl, Nat.zero_le _, rfl, H2⟩
    case round =>
     clear H2
     obtain ⟨i, n, AO, cO, rfl, hi', rfl, HB⟩ := hrel
     by_cases hlt : i < cs.length
     . have a0 : (0 : Int) <= (i : Int) := by omega
       have a1 : (i : Int) < (cs.length : Int) := by omega
       obtain ⟨ad, rfl, hbl, hx⟩ := (show Jg wr wq.heap.size AP cs from ZD.below HRD.out HB.out.2.2).get hlt
       have hcv9 := HLT.out _ (List.getElem_mem hlt)
       generalize hcv : cs[i] = cv at hx hcv9
       have HCV := Hd hcv
       have hsz := HB.out.2.2.size
       have q1 : (ad.add i).block < wr.heap.size := by rw [Z9]; omega
       have HLTI := Hd hlt
       have HCV9 := Hd (show cv < 4294967296 by omega)
       clear hcv hcv9
       go_wp2_with fail
       have H3 := Hd (show n = 9 * i + 0 /\ ([] : List UInt8).length = 0 /\ ldig 9 cv = [] ++ ldig (9 - 0) cv /\ wr.ownsRow wq.heap.size 5 1 (.slice AO n cO) n (Lib.byteCells (Y0 (cs.take i) ++ [])) /\ Below wq.heap.size wq wr from ⟨HB.out.1, rfl, rfl, by rw [List.append_nil]; exact HB.out.2.1, HB.out.2.2⟩)
       clear HB hx
       go_loopw [7, 9, 10] (fun s7 s9 s10 wl => ∃ (k m p : Nat) (AO : Option Addr) (cO : Nat) (ds : List UInt8), s10 = .int .i64 k /\ k <= 9 /\ s9 = .int .u32 p /\ p < 4294967296 /\ s7 = .slice AO m cO /\ Hid (m = 9 * i + k /\ ds.length = k /\ ldig 9 cv = ds ++ ldig (9 - k) p /\ wl.ownsRow wq.heap.size 5 1 (.slice AO m cO) m (Lib.byteCells (Y0 (cs.take i) ++ ds)) /\ Below wq.heap.size wq wl)) (fun _ _ s _ => 9 - (intOf s).toNat)
       case atStart => exact ⟨0, n, cv, AO, cO, [], rfl, by omega, rfl, HCV9.out, rfl, H3⟩
       case round =>
        clear H3
        obtain ⟨k, m, p, AO, cO, ds, rfl, hk, rfl, hp, rfl, HI⟩ := hrel
        have hmb : m <= 18000010 := by have := HI.out.1; omega
        by_cases hlk : k < 9
        . have b0 : (0 : Int) <= (p : Int) % 10 := by omega
          have b1 : (p : Int) % 10 < 10 := by omega
          have HLK := Hd hlk
          have hss := HI.out.2.2.2.2.size
          have HBY := Hd (show (Value.int .u8 (48 + (p : Int) % 10)) = .int .u8 ((UInt8.ofNat (48 + p % 10)).toNat : Int) from by
           have e : (UInt8.ofNat (48 + p % 10)).toNat = 48 + p % 10 := by simp; omega
           rw [e]; rfl)
          have HP10 := Hd (show p / 10 < 4294967296 by omega)
          go_wp2_with (
           at_builtin
           refine Zw _ rfl (.tmp 46) (.tmp 51) _ rfl wq.heap.size 5 j0 _ 1 1 Tryz.underlying222 hj hj0 hj1 hj2 rfl (by omega) (.slice AO m cO) m (Lib.byteCells (Y0 (cs.take i) ++ ds)) rfl (HI.out.2.2.2.1.alloc _) (wr.heap.size + 1) (some ⟨wr.heap.size, 0, none⟩) 1 1 [.int .u8 (48 + (p : Int) % 10)] rfl (ZD.new1 wr _ 1 _ rfl) (by intro x hx; simp at hx; subst hx; rfl) (by unfold maxLen; omega) (by omega) (by simp; omega) ?_
           intro v' w4 ho hg4 _
           obtain ⟨A5, c5, rfl⟩ := Xh (by omega) ho
           have HO4 := Hd ho
           have HL4 := Hd ((HI.out.2.2.2.2.alloc (by omega) (.cells #[.int .u8 (48 + (p : Int) % 10)] 5)).grown hg4 (by simp; omega) (fun k hk => (HI.out.2.2.2.1.lt k hk).1))
           clear ho hg4)
          have HN := Hd (show m + 1 = 9 * i + (k + 1) /\ (ds ++ [UInt8.ofNat (48 + p % 10)]).length = k + 1 /\ ldig 9 cv = (ds ++ [UInt8.ofNat (48 + p % 10)]) ++ ldig (9 - (k + 1)) (p / 10) /\ w4.ownsRow wq.heap.size 5 1 (.slice A5 (m + 1) c5) (m + 1) (Lib.byteCells (Y0 (cs.take i) ++ (ds ++ [UInt8.ofNat (48 + p % 10)]))) /\ Below wq.heap.size wq w4 from
           ⟨by have := HI.out.1; omega, by rw [List.length_append, HI.out.2.1]; rfl, by
            have h1 := HI.out.2.2.1
            rw [ldig_more (9 - k) p (by have := HLK.out; omega)] at h1
            rw [h1, List.append_assoc, Nat.sub_sub]; rfl, by
            have h1 := HO4.out
            rw [HBY.out] at h1
            rw [<- List.append_assoc, Lib.byteCells_append (Y0 (cs.take i) ++ ds)]
            exact h1, HL4.out⟩)
          have HK9 := Hd (show k + 1 <= 9 from HLK.out)
          clear HO4 HL4 HBY HI b0 b1 hss
          go_roundw
          case rel => exact ⟨k + 1, m + 1, p / 10, A5, c5, _, by go_num, HK9.out, by go_num, HP10.out, rfl, HN⟩
          case measure => simp [intOf]; have := HLK.out; omega
        . obtain rfl : k = 9 := by omega
          have HN := Hd (show m = 9 * (i + 1) /\ wr.ownsRow wq.heap.size 5 1 (.slice AO m cO) m (Lib.byteCells (Y0 (cs.take (i + 1)))) /\ Below wq.heap.size wq wr from ⟨by have := HI.out.1; omega, by
           have h1 := HI.out.2.2.2.1
           have h2 := HI.out.2.2.1
           rw [show ldig (9 - 9) p = [] from rfl, List.append_nil] at h2
           rw [List.take_succ_eq_append_getElem HLTI.out, HCV.out]
           unfold Y0 at h1 ⊢
           rw [List.flatMap_append, List.flatMap_singleton, h2]
           exact h1, HI.out.2.2.2.2⟩)
          clear HI
          go_wp2_with fail
          go_roundw
          case rel => exact ⟨i + 1, m, AO, cO, by go_num, HLTI.out, rfl, HN⟩
          case measure => simp [intOf]; have := HLTI.out; omega
     . obtain rfl : i = cs.length := by omega
       obtain ⟨z0, hz⟩ := lchunks_text V HPV.out
       obtain ⟨d, r, hdr, hd48⟩ := dec_head V HPV.out
       obtain ⟨R, hR⟩ : ∃ R, R = r.reverse := ⟨_, rfl⟩
       have hown := HB.out.2.1
       have hn0 : n = R.length + z0 + 1 := by
        have h1 := congrArg List.length hz
        rw [HALL.out, lchunks_length, hdr, List.length_append, List.length_reverse, List.length_cons, List.length_replicate] at h1
        rw [HB.out.1, h1, hR, List.length_reverse]; omega
       rw [List.take_length, <- HALL.out, hz, hdr, List.reverse_cons, <- hR] at hown
       obtain ⟨g, rfl, hg, -, -⟩ := Kj hown (by omega)
       have HZZ := Hd (show (R ++ [d]).reverse = Lib.decDigits V by rw [hdr, hR]; simp)
       have HD48 := Hd hd48
       have HLWQ := Hd HB.out.2.2
       have HG := Hd hg
       have hn20 : n <= 20000000 := by have := HB.out.1; omega
       have HOWN := Hd hown
       obtain ⟨m0, hm0⟩ : ∃ m, n = m + 1 := ⟨R.length + z0, hn0⟩
       have HM0 := Hd (show m0 = R.length + z0 by omega)
       subst hm0
       clear hz hdr hd48 hR hown hn0 hg HB HRD HALL HLT
       go_wp2_with fail
       go_loopg [7] (z0) (fun zz s wl => ∃ m : Nat, s = .slice (some ⟨g, 0, none⟩) (m + 1) cO /\ m + 1 <= 20000000 /\ Hid (m = R.length + zz /\ wl.ownsRow wq.heap.size 5 1 (.slice (some ⟨g, 0, none⟩) (m + 1) cO) (m + 1) (Lib.byteCells (R ++ [d] ++ List.replicate zz 48)) /\ Below wq.heap.size wq wl))
       case atStart => exact ⟨m0, rfl, hn20, Hd ⟨HM0.out, HOWN.out, HLWQ.out⟩⟩
       case round =>
        clear HOWN HLWQ HM0 hn20
        obtain ⟨m, rfl, hm20, HB⟩ := hrel
        obtain ⟨hf, hlen⟩ := Xe.of_own HB.out.2.1
        have hcap := hf.fits
        have hml : m < (R ++ [d] ++ List.replicate gk 48).length := by omega
        have hcell := hf.cell hml
        have hglt := hf.lt
        have a0 : (0 : Int) <= (m : Int) := by omega
        have a1 : (m : Int) + 1 <= (cO : Int) := by omega
        have a2 : (m : Int) <= (cO : Int) := by omega
        rcases Nat.eq_zero_or_pos gk with h0 | h0
        . subst h0
          have hmR : m = R.length := HB.out.1
          have e1 : (R ++ [d] ++ List.replicate 0 48)[m] = d := by subst hmR; simp
          rw [e1] at hcell
          have hd0 : ((d.toNat : Int) == 48) = false := by
           have := HD48.out
           have h2 : d.toNat ≠ 48 := fun e => this (UInt8.toNat_inj.1 e)
           simp; omega
          obtain ⟨l_x, x0, x1, -, -⟩ := (HPX.out.below (show Below wq.heap.size wq wr from HB.out.2.2)).facts
          have hgw := HG.out
          have HLW9 := Hd (Zb HLW.out HB.out.2.2)
          have HBE := Hd HB.out.2.2
          rw [show R ++ [d] ++ List.replicate 0 48 = R ++ [d] by simp] at hf
          have hown := HB.out.2.1
          rw [show R ++ [d] ++ List.replicate 0 48 = R ++ [d] by simp] at hown
          have hlen' : (R ++ [d]).length = m + 1 := by simp; omega
          have HLN := Hd hlen'
          have HF := Hd hf
          have HOW := Hd hown
          clear e1 hml hlen hf HB hmR hown hlen'
          cases n1
          case' false =>
           go_wp2_with fail
           have H5 := Hd (show (R ++ [d]).reverse = z /\ (R ++ [d]).length = m + 1 /\ (∃ ys, Xe wr g cO ys /\ Rev (R ++ [d]) 0 ys /\ Below wq.heap.size wq wr) from ⟨by rw [HZ.out, HZZ.out]; rfl, HLN.out, _, HF.out, Rev.start _, HBE.out⟩)
           obtain ⟨M, hM⟩ : ∃ M, M = R ++ [d] := ⟨_, rfl⟩
           obtain ⟨N, hN⟩ : ∃ N, N = m + 1 := ⟨_, rfl⟩
           have hN2 : N <= 20000001 := by omega
           obtain ⟨g5, hg5⟩ : ∃ q, q = g := ⟨_, rfl⟩
           obtain ⟨c5, hc5⟩ : ∃ q, q = cO := ⟨_, rfl⟩
           have HGE := Hd hgw
           rw [<- hM, <- hN, <- hg5, <- hc5] at H5
           rw [<- hg5] at HGE
           rw [<- hN, <- hg5, <- hc5]
           clear hM hN hg5 hc5
          case' true =>
           go_wp2_with (
            at_builtin
            refine Zw _ rfl (.tmp 69) (.tmp 70) _ rfl wq.heap.size 5 j0 _ 1 1 Tryz.underlying222 hj hj0 hj1 hj2 rfl (by omega) (.slice (some ⟨g, 0, none⟩) (m + 1) cO) (m + 1) (Lib.byteCells (R ++ [d])) rfl (HOW.out.alloc _) (wr.heap.size + 1) (some ⟨wr.heap.size, 0, none⟩) 1 1 [.int .u8 45] rfl (ZD.new1 wr _ 1 _ rfl) (by intro x hx; simp at hx; subst hx; rfl) (by unfold maxLen; omega) (by omega) (by simp; have := HBE.out.size; omega) ?_
            intro v' w4 ho hg4 _
            obtain ⟨A5, c5, rfl⟩ := Xh (by omega) ho
            obtain ⟨g5, rfl, hg5, -, -⟩ := Kj ho (by omega)
            have HO4 := Hd ho
            have HL4 := Hd ((HBE.out.alloc (by have := HBE.out.size; omega) (.cells #[.int .u8 45] 5)).grown hg4 (by have := HBE.out.size; simp; omega) (fun k hk => (HOW.out.lt k hk).1))
            clear ho hg4)
           have hown5 : w4.ownsRow wq.heap.size 5 1 (.slice (some ⟨g5, 0, none⟩) (m + 1 + 1) c5) (m + 1 + 1) (Lib.byteCells (R ++ [d] ++ [45])) := by
            rw [Lib.byteCells_append]; exact HO4.out
           obtain ⟨hf5, hl5⟩ := Xe.of_own hown5
           have H5 := Hd (show (R ++ [d] ++ [45]).reverse = z /\ (R ++ [d] ++ [45]).length = m + 1 + 1 /\ (∃ ys, Xe w4 g5 c5 ys /\ Rev (R ++ [d] ++ [45]) 0 ys /\ Below wq.heap.size wq w4) from ⟨by rw [HZ.out, List.reverse_append, HZZ.out]; rfl, hl5, _, hf5, Rev.start _, HL4.out⟩)
           obtain ⟨M, hM⟩ : ∃ M, M = R ++ [d] ++ [45] := ⟨_, rfl⟩
           obtain ⟨N, hN⟩ : ∃ N, N = m + 1 + 1 := ⟨_, rfl⟩
           have hN2 : N <= 20000001 := by omega
           have HLW9 := Hd (Zb HLW.out HL4.out)
           have HGE := Hd hg5
           rw [<- hM, <- hN] at H5
           rw [<- hN]
           clear hM hN hown5 hf5 hl5 HO4 HL4 hg5
          all_goals
           clear HF HOW HLN hcell hd0 l_x x0 x1 HBE
           have HMZ := Hd H5.out.1
           have HMN := Hd H5.out.2.1
           have H6 := Hd H5.out.2.2
           clear H5
           go_loopw [11] (fun s wl => ∃ i : Nat, s = .int .i64 i /\ i <= N /\ Hid (∃ ys, Xe wl g5 c5 ys /\ Rev M i ys /\ Below wq.heap.size wq wl)) (fun s _ => N - (intOf s).toNat)
           case atStart => exact ⟨0, rfl, Nat.zero_le _, H6⟩
           case round =>
            clear H6
            obtain ⟨i, rfl, hiN, HB⟩ := hrel
            obtain ⟨ys, hf, hr, hb⟩ := HB.out
            have hlen := hr.1
            have hMN := HMN.out
            have hglt := hf.lt
            have hge := HGE.out
            by_cases hlt : 2 * i + 1 < N
            . obtain ⟨k, hk, hik⟩ : ∃ k, N = i + k + 1 /\ i < k := ⟨N - 1 - i, by omega, by omega⟩
              have hi1 : i < ys.length := by omega
              have hk1 : k < ys.length := by omega
              have hnx := hr.next (show M.length = i + k + 1 by omega) hik
              rw [<- hr.at_ (j := i) (by omega) (Nat.le_refl _) (by omega), <- hr.at_ (j := k) (by omega) (by omega) (by omega)] at hnx
              have c1 := hf.cell hi1
              have c2 := hf.cell hk1
              have f1 := hf.frozen i
              have f2 := hf.frozen k
              generalize ys[i] = a at c1 hnx
              generalize ys[k] = b at c2 hnx
              have HN := Hd (show ∃ zs, Xe ((wr.setCell ⟨g5, i, none⟩ (.int .u8 (b.toNat : Int))).setCell ⟨g5, k, none⟩ (.int .u8 (a.toNat : Int))) g5 c5 zs /\ Rev M (i + 1) zs /\ Below wq.heap.size wq ((wr.setCell ⟨g5, i, none⟩ (.int .u8 (b.toNat : Int))).setCell ⟨g5, k, none⟩ (.int .u8 (a.toNat : Int))) from
               ⟨_, (hf.set hi1 b).set (by simpa using hk1) a, hnx, (hb.setCell (p := ⟨g5, i, none⟩) hge _).setCell (p := ⟨g5, k, none⟩) hge _⟩)
              have d1 : 2 * (i : Int) < (N : Int) - 1 := by omega
              have d2 : (N : Int) - 1 - (i : Int) = (k : Int) := by omega
              have d3 : (0 : Int) <= (i : Int) := by omega
              have d4 : (i : Int) < (N : Int) := by omega
              have d5 : (k : Int) < (N : Int) := by omega
              have d6 : (0 : Int) <= (k : Int) := by omega
              have HI1 := Hd (show i + 1 <= N /\ i < N by omega)
              clear hnx hf hr hb HB hlen hMN hi1 hk1 hk hlt hik
              go_wp2_with fail
              go_roundw
              case rel => exact ⟨i + 1, by go_num, HI1.out.1, HN⟩
              case measure => simp [intOf]; have := HI1.out.2; omega
            . have hys : ys = z := by rw [hr.done (by omega), HMZ.out]
              rw [hys] at hf hlen
              have hcv : (convert 222 9 (.slice (some ⟨g5, 0, none⟩) N c5)).run Tryz.prog wr = .ok (.string ⟨z.toArray⟩) wr := by
               have h1 := run_convert_bytes_back (P := Tryz.prog) wr 222 9 5 ⟨g5, 0, none⟩ c5 z Tryz.underlying222 Tryz.underlying5 Tryz.underlying9 (fun j hj => by
                rw [show (⟨g5, 0, none⟩ : Addr).add j = ⟨g5, j, none⟩ by unfold Addr.add; split <;> simp_all]
                exact hf.cell hj)
               rw [hlen, hMN] at h1
               exact h1
              have d1 : (N : Int) - 1 <= 2 * (i : Int) := by omega
              have HFIN := Hd (Zb HLW.out hb)
              clear hf hr hb HB hlen hMN hys hlt HZ
              go_wp2_with fail
              go_ret
              exact ⟨rfl, HFIN.out⟩
        . obtain ⟨q, rfl⟩ : ∃ q, gk = q + 1 := ⟨gk - 1, by omega⟩
          have hmR : m = R.length + (q + 1) := HB.out.1
          have e1 : (R ++ [d] ++ List.replicate (q + 1) 48)[m] = 48 := by
           rw [List.getElem_append_right (by simp; omega)]
           simp
          rw [e1] at hcell
          have HN := Hd (show m - 1 = R.length + q /\ wr.ownsRow wq.heap.size 5 1 (.slice (some ⟨g, 0, none⟩) (m - 1 + 1) cO) (m - 1 + 1) (Lib.byteCells (R ++ [d] ++ List.replicate q 48)) /\ Below wq.heap.size wq wr from ⟨by omega, by
           have h1 := row_cut HB.out.2.1 (m := m - 1 + 1) (by omega)
           rw [List.replicate_succ', <- List.append_assoc, Lib.byteCells_append, List.take_left' (by rw [Lib.byteCells_length]; simp; omega)] at h1
           exact h1, HB.out.2.2⟩)
          have HMM := Hd (show m - 1 + 1 = m by omega)
          clear e1 hml hlen hf HB h0 hmR
          go_wp2_with fail
          go_roundg q
          case measure => omega
          case rel => exact ⟨m - 1, by rw [HMM.out], by omega, HN⟩
  . have hlen : decide (0 < (Za gk).length) = true := decide_eq_true (by
     rcases Nat.eq_zero_or_pos (Za gk).length with e | e
     . have := Ym.1 (List.eq_nil_of_length_eq_zero e)
       omega
     . exact e)
    have hcnt := rcount HR.out.big h0 HV.out
    have C1 := Hd (ref_short AL cL 1000000000 (Za gk) (by omega) (by omega) (by have := HV.out; have := Yu (show gk <= V from Nat.le_trans (Nat.le_mul_of_pos_right _ (Nat.two_pow_pos _)) HR.out.big); omega) wr HR.out.raw)
    rw [Zi] at C1
    go_wp2_with fail
    refine C1.out.mono ?_
    rintro e w2 ⟨v2, rfl, hO, hb⟩
    obtain ⟨A2, c2, rfl, q1, q2, q3⟩ := hO.form
    have how := Zt HR.out.parts hb
    have hs1 := HR.out.low.size
    have hs2 := hb.size
    have HQ := Hd q3
    have HQ2 := Hd (And.intro q1 q2)
    have HPX := Hd (HR.out.px.below hb)
    have HLW := Hd (Zb HR.out.low hb)
    have HPL := Hd HR.out.parts.lt
    have HALL := Hd (And.intro HR.out.all HR.out.big)
    have HCNT := Hd hcnt
    have HK0 := Hd h0
    have hlx := HR.out.px.blk.lt
    clear hO q1 q2 q3 hb hcnt h0 HR C1 hlen
    go_wp2_with (
     at_builtin
     refine Zw _ rfl (.tmp 27) (.tmp 29) _ rfl (w.heap.size + 1) 109 i0 _ 1 4 Tryz.underlying22 hi hz0 hz1 hz2 rfl (by omega) (.slice AP cs.length cP) cs.length (Zh cs) rfl (how.alloc _) (w2.heap.size + 1) (some ⟨w2.heap.size, 0, none⟩) 1 1 [.int .u32 ((gk % 1000000000 : Nat) : Int)] rfl (ZD.new1 w2 _ 1 _ rfl) (by intro x hx; simp at hx; subst hx; rfl) (by unfold maxLen; have := HCNT.out; have := HV.out; omega) (by have := HCNT.out; have := HV.out; omega) (by simp; omega) ?_
     intro v' w4 ho hg4 hat
     obtain ⟨A5, c5, rfl⟩ := Xh (by omega) ho
     have hq := (HQ.out.alloc (.cells #[.int .u32 ((gk % 1000000000 : Nat) : Int)] 109)).kept hg4 (by
       cases A2 with
       | none => exact .inl rfl
       | some b => exact .inr (fun e => by have h1 := (HQ.out.lt b.block rfl).1; have h2 := (HPL.out b.block e.symm).2; omega))
     have HRW := Hd (show Zm w4 A2 c2 (Za (gk / 1000000000)) from ⟨Yt _, HQ2.out.1, HQ2.out.2, ZD.of_own hq⟩)
     have HPX4 := Hd ((HPX.out.alloc (.cells #[.int .u32 ((gk % 1000000000 : Nat) : Int)] 109)).grown hg4 (fun e => by
       have := (how.lt _ e.symm).1
       omega))
     have HL4 := Hd ((HLW.out.alloc (by omega) (.cells #[.int .u32 ((gk % 1000000000 : Nat) : Int)] 109)).grown hg4 (by simp; omega) (fun k hk => by have := (how.lt k hk).1; omega))
     have HO4 := Hd ho
     clear ho hg4 hat hq)
    have HN := Hd (show Rd w w4 n1 (.slice A (Za V).length c) V (gk / 1000000000) (cs ++ [gk % 1000000000]) A5 c5 A2 c2 from
     ⟨HL4.out, HRW.out, by
       have e : Zh (cs ++ [gk % 1000000000]) = Zh cs ++ [.int .u32 ((gk % 1000000000 : Nat) : Int)] := by simp [Zh]
       rw [e, List.length_append, List.length_singleton]; exact HO4.out, HPX4.out, by
       rw [HALL.out.1, Xr (by have := HK0.out; omega)]; simp, by
       rw [List.length_append, List.length_singleton]; exact rbig HALL.out.2, by
       rw [List.length_append, List.length_singleton]; have := HCNT.out; have := HV.out; omega⟩)
    have HM := Hd (show gk / 1000000000 < gk from Nat.div_lt_self HK0.out (by omega))
    clear HL4 HRW HO4 HPX4 HALL HCNT HK0 HQ HQ2 HPX HLW HPL how hs1 hs2 hlx
    go_wp2_with fail
    go_roundg (gk / 1000000000)
    case measure => exact HM.out
    case rel => exact ⟨A5, c5, cs ++ [gk % 1000000000], A2, c2, by simp, rfl, HN⟩

theorem ref_digits_nought (n1 : Bool) (A : Option Addr) (c : Nat) (w : World) :
  Calls Tryz.prog 186 #[.agg #[.bool n1, .slice A ([] : List Nat).length c]] w fun e w' => e = .returned (.string ⟨#[48]⟩) /\ Below w.heap.size w w' := by
 have b0 := (Below.refl w.heap.size w).alloc (Nat.le_refl _) (.cells #[.bool n1, .slice A ([] : List Nat).length c] 24)
 have HB := Hd b0
 clear b0
 go_enter Tryz.func186, Tryz.ntmps186
 go_wp2_with fail
 go_ret
 exact ⟨rfl, HB.out⟩
theorem ref_Digits (n1 : Bool) (A : Option Addr) (c : Nat) (xs : List Nat) (hcx : ZU xs) (hl : xs.length <= 1000000) (w : World) (h : Zm w A c xs) :
   Calls Tryz.prog 186 #[.agg #[.bool n1, .slice A xs.length c]] w fun e w' => e = .returned (.string ⟨(Lib.itoa (Zv n1 xs)).toArray⟩) /\ Below w.heap.size w w' := by
 by_cases hx : xs = []
 . subst hx
   have e : Lib.itoa (Zv n1 []) = [48] := by
     have : Zv n1 [] = ((0 : Nat) : Int) := by unfold Zv; cases n1 <;> rfl
     rw [this, Lib.itoa_nonneg, Lib.decDigits_one (by omega)]; rfl
   rw [e]
   exact ref_digits_nought n1 A c w
 . refine ref_digits_more n1 A c xs hx hcx hl _ (Hd ?_) w h
   have hp : 0 < val xs := by
     rcases Nat.eq_zero_or_pos (val xs) with h0 | h0
     . have := YU h.limbs hcx
       rw [h0, Z8] at this
       exact absurd this.symm hx
     . exact h0
   unfold Zv
   cases n1
   . simp [Lib.itoa_nonneg]
   . simp only [if_true]
     rw [Lib.itoa_neg _ hp]

theorem itoa_one : Lib.itoa 1 = [49] := by
 have : (1 : Int) = ((1 : Nat) : Int) := rfl
 rw [this, Lib.itoa_nonneg, Lib.decDigits_one (by omega)]; rfl
theorem itoa_size {x : Int} (h : lz x <= 1000000) : (Lib.itoa x).length <= 32000001 := by
 have := dec_fit_any 1000000 (by omega) (x := x.natAbs) h
 unfold Lib.itoa
 split
 . simp; omega
 . rw [show x.toNat = x.natAbs by omega]; omega

theorem ref02_Digits_one (n d : Int) (A B : Option Addr) (c e0 : Nat) (w : World) (h_x : Zm w A c (Za n.natAbs)) (k_x : Zm w B e0 (Za d.natAbs)) (hn : lz n <= 1000000) (hd : lz d <= 1000000) (hd1 : d = 1) :
  Calls Tryz.prog 112 #[.agg #[.bool (decide (n < 0)), .slice A (Za n.natAbs).length c, .bool (decide (d < 0)), .slice B (Za d.natAbs).length e0]] w fun e w' => e = .returned (.string ⟨(Zk n d).toArray⟩) /\ Below w.heap.size w w' := by
 have hnl : lz n <= 1000000 := hn
 have hdl : lz d <= 1000000 := hd
 have C3 := fun (V : World) (h : Zm V A c (Za n.natAbs)) => ref_Digits (decide (n < 0)) A c _ (ZB _) (by unfold lz at hnl; omega) V h
 simp only [YV] at C3
 have C4 := fun (V : World) (h : Zm V B e0 (Za d.natAbs)) => ref_Digits (decide (d < 0)) B e0 _ (ZB _) (by unfold lz at hdl; omega) V h
 simp only [YV] at C4
 obtain ⟨t1, ht1⟩ : ∃ t : ByteArray, t = ⟨(Lib.itoa n).toArray⟩ := ⟨_, rfl⟩
 obtain ⟨t2, ht2⟩ : ∃ t : ByteArray, t = ⟨(Lib.itoa d).toArray⟩ := ⟨_, rfl⟩
 rw [<- ht1] at C3
 rw [<- ht2] at C4
 have h49 : t2 = ⟨#[49]⟩ := by rw [ht2, hd1, itoa_one]
 have HD := Hd (show (⟨(Zk n d).toArray⟩ : ByteArray) = t1 by rw [ht1, show Zk n d = Lib.itoa n from if_pos hd1])
 rw [h49] at C4
 have H3 := Hd C3
 have H4 := Hd C4
 clear C3 C4 ht1 ht2 hn hd hd1 hnl hdl h49
 have b0 := ((Below.refl w.heap.size w).alloc (Nat.le_refl _) (.cells #[.bool (decide (n < 0)), .slice A (Za n.natAbs).length c, .bool (decide (d < 0)), .slice B (Za d.natAbs).length e0] 26))
 have p0 := Zz.new w (.bool (decide (n < 0))) (.slice A (Za n.natAbs).length c) (.bool (decide (d < 0))) (.slice B (Za d.natAbs).length e0)
 have V_x := Hd (FV.mk p0 (h_x.below b0) (k_x.below b0))
 have KW_x := Hd k_x
 have RW_x := Hd h_x
 have HBW := Hd b0
 clear b0 p0 h_x k_x
 go_enter Tryz.func112, Tryz.ntmps112
 obtain ⟨W, E⟩ : ∃ W, W = (w.alloc (.cells #[.bool (decide (n < 0)), .slice A (Za n.natAbs).length c, .bool (decide (d < 0)), .slice B (Za d.natAbs).length e0] 26)) := ⟨_, rfl⟩
 go_upto_region 1 with fail
 rw [<- E] at V_x HBW ⊢
 clear E
 obtain ⟨l_x, a_x, b_x, c_x, d_x, -, -, -, -⟩ := V_x.out.quad.facts
 go_wp2_with fail
 refine (H3.out W V_x.out.num).mono ?_
 rintro e x1 ⟨rfl, hb⟩
 clear l_x a_x b_x c_x d_x
 have V_x := Hd (V_x.out.below hb)
 have HBW := Hd (Zb HBW.out hb)
 clear hb
 obtain ⟨l_x, a_x, b_x, c_x, d_x, -, -, -, -⟩ := V_x.out.quad.facts
 go_wp2_with fail
 refine (H4.out x1 V_x.out.den).mono ?_
 rintro e x2 ⟨rfl, hb⟩
 clear l_x a_x b_x c_x d_x
 have V_x := Hd (V_x.out.below hb)
 have HBW := Hd (Zb HBW.out hb)
 clear hb
 go_wp2_with fail
 go_ret
 exact ⟨by rw [HD.out]; rfl, HBW.out⟩

theorem ref02_Digits_more (n d : Int) (A B : Option Addr) (c e0 : Nat) (w : World) (h_x : Zm w A c (Za n.natAbs)) (k_x : Zm w B e0 (Za d.natAbs)) (hn : lz n <= 1000000) (hd : lz d <= 1000000) (hd1 : d ≠ 1) :
  Calls Tryz.prog 112 #[.agg #[.bool (decide (n < 0)), .slice A (Za n.natAbs).length c, .bool (decide (d < 0)), .slice B (Za d.natAbs).length e0]] w fun e w' => e = .returned (.string ⟨(Zk n d).toArray⟩) /\ Below w.heap.size w w' := by
 have hnl : lz n <= 1000000 := hn
 have hdl : lz d <= 1000000 := hd
 have C3 := fun (V : World) (h : Zm V A c (Za n.natAbs)) => ref_Digits (decide (n < 0)) A c _ (ZB _) (by unfold lz at hnl; omega) V h
 simp only [YV] at C3
 have C4 := fun (V : World) (h : Zm V B e0 (Za d.natAbs)) => ref_Digits (decide (d < 0)) B e0 _ (ZB _) (by unfold lz at hdl; omega) V h
 simp only [YV] at C4
 obtain ⟨t1, ht1⟩ : ∃ t : ByteArray, t = ⟨(Lib.itoa n).toArray⟩ := ⟨_, rfl⟩
 obtain ⟨t2, ht2⟩ : ∃ t : ByteArray, t = ⟨(Lib.itoa d).toArray⟩ := ⟨_, rfl⟩
 rw [<- ht1] at C3
 rw [<- ht2] at C4
 have htu : ¬ t2.toList = [49] := by
  rw [ByteArray.toList_eq, ht2]
  intro e
  exact hd1 (itoa_inj.1 (e.trans itoa_one.symm))
 have HTU := Hd htu
 have HTV := Hd (show (t2.toList == [49]) = false by rw [beq_eq_false_iff_ne]; exact htu)
 have HTW := Hd (show ¬ t2 = ⟨#[49]⟩ by intro e; apply htu; rw [e, ByteArray.toList_eq])
 have HD := Hd (show Zk n d = Lib.itoa n ++ 47 :: Lib.itoa d from if_neg hd1)
 have f1 := itoa_size hn
 have f2 := itoa_size hd
 have g1 : t1.size <= 32000001 := by rw [ht1]; simpa [ByteArray.size] using f1
 have g2 : t2.size <= 32000001 := by rw [ht2]; simpa [ByteArray.size] using f2
 have HC1 := Hd (show ¬ 9223372036854775807 < t1.size + 1 from by omega)
 have HC2 := Hd (show ¬ 9223372036854775807 < t1.size + 1 + t2.size from by omega)
 have HTT := Hd (show t1 ++ ⟨#[47]⟩ ++ t2 = ⟨(Zk n d).toArray⟩ from by rw [HD.out, ht1, ht2, ByteArray.mk_append_mk, ByteArray.mk_append_mk]; simp)
 have H3 := Hd C3
 have H4 := Hd C4
 clear C3 C4 ht1 ht2 hn hd hd1 hnl hdl htu f1 f2 g1 g2 HD
 have b0 := ((Below.refl w.heap.size w).alloc (Nat.le_refl _) (.cells #[.bool (decide (n < 0)), .slice A (Za n.natAbs).length c, .bool (decide (d < 0)), .slice B (Za d.natAbs).length e0] 26))
 have p0 := Zz.new w (.bool (decide (n < 0))) (.slice A (Za n.natAbs).length c) (.bool (decide (d < 0))) (.slice B (Za d.natAbs).length e0)
 have V_x := Hd (FV.mk p0 (h_x.below b0) (k_x.below b0))
 have KW_x := Hd k_x
 have RW_x := Hd h_x
 have HBW := Hd b0
 clear b0 p0 h_x k_x
 go_enter Tryz.func112, Tryz.ntmps112
 obtain ⟨W, E⟩ : ∃ W, W = (w.alloc (.cells #[.bool (decide (n < 0)), .slice A (Za n.natAbs).length c, .bool (decide (d < 0)), .slice B (Za d.natAbs).length e0] 26)) := ⟨_, rfl⟩
 go_upto_region 1 with fail
 rw [<- E] at V_x HBW ⊢
 clear E
 obtain ⟨l_x, a_x, b_x, c_x, d_x, -, -, -, -⟩ := V_x.out.quad.facts
 go_wp2_with fail
 refine (H3.out W V_x.out.num).mono ?_
 rintro e x1 ⟨rfl, hb⟩
 clear l_x a_x b_x c_x d_x
 have V_x := Hd (V_x.out.below hb)
 have HBW := Hd (Zb HBW.out hb)
 clear hb
 obtain ⟨l_x, a_x, b_x, c_x, d_x, -, -, -, -⟩ := V_x.out.quad.facts
 go_wp2_with fail
 refine (H4.out x1 V_x.out.den).mono ?_
 rintro e x2 ⟨rfl, hb⟩
 clear l_x a_x b_x c_x d_x
 have V_x := Hd (V_x.out.below hb)
 have HBW := Hd (Zb HBW.out hb)
 clear hb
 have htu := HTU.out
 have htv := HTV.out
 have htw := HTW.out
 have hc1 := HC1.out
 have hc2 := HC2.out
 go_wp2_with fail
 go_ret
 exact ⟨by rw [<- HTT.out]; rfl, HBW.out⟩

theorem ref02_Digits (n d : Int) (A B : Option Addr) (c e0 : Nat) (w : World) (h : Zm w A c (Za n.natAbs)) (g : Zm w B e0 (Za d.natAbs)) (hn : lz n <= 1000000) (hd : lz d <= 1000000) :
   Calls Tryz.prog 112 #[.agg #[.bool (decide (n < 0)), .slice A (Za n.natAbs).length c, .bool (decide (d < 0)), .slice B (Za d.natAbs).length e0]] w fun e w' => e = .returned (.string ⟨(Zk n d).toArray⟩) /\ Below w.heap.size w w' := by
 by_cases h1 : d = 1
 . exact ref02_Digits_one n d A B c e0 w h g hn hd h1
 . exact ref02_Digits_more n d A B c e0 w h g hn hd h1

def RetReadG (w : World) (T : Int -> Int -> Bool -> Prop) (e : Ending) (w' : World) : Prop := ∃ N D B, Js w N D B e w' /\ T N D B

theorem ref02_Read_all (s : ByteArray) (n d : Int) (ok1 ok2 told : Bool) (P : Nat) (w : World)  (hs : s.size <= 65536) (hP : P = (ZA s.data.toList).length) (C2 : ∀ V, Calls Tryz.prog 187 #[.string (s.extract 0 P)] V (RetZB V n ok1)) (C3 : P < s.size -> ∀ V, Calls Tryz.prog 187 #[.string (s.extract (P + 1) s.size)] V (RetZB V d ok2)) (hln : lz n <= 7282) (hld : lz d <= 7282) (htold : told = decide (Zk (YX n d) (YP n d) = s.data.toList)) (T : Int -> Int -> Bool -> Prop) (t1 : ok1 = false -> T 0 0 false) (t2 : ok1 = true -> P = s.size -> T n 1 true) (t3 : ok1 = true -> P < s.size -> ok2 = false ∨ d <= 0 -> T 0 0 false) (t4 : ok1 = true -> P < s.size -> ok2 = true -> 0 < d -> T (YX n d) (YP n d) told) :
  Calls Tryz.prog 114 #[.string s] w (RetReadG w T) := by
 have b0 := ((Below.refl w.heap.size w).alloc (Nat.le_refl _) (.cells #[.bool false, .slice none 0 0, .bool false, .slice none 0 0] 26))
 have p0 := Zz.new w (.bool false) (.slice none 0 0) (.bool false) (.slice none 0 0)
 have P_r0 := Hd p0
 have HBW := Hd b0
 clear b0 p0 
 have hPs : P <= s.size := by rw [hP]; exact front_size s
 have HP := Hd hP
 have H2 := Hd C2
 have H3 := Hd C3
 have T1 := Hd t1
 have T2 := Hd t2
 have T3 := Hd t3
 have T4 := Hd t4
 have HTD := Hd htold
 obtain ⟨one, hone⟩ : ∃ k : Int, k = 1 := ⟨_, rfl⟩
 have HONE := Hd hone
 obtain ⟨sg, hsg⟩ : ∃ k : Int, k = d.sign := ⟨_, rfl⟩
 have HSG := Hd hsg
 obtain ⟨N, hN⟩ : ∃ k : Int, k = YX n d := ⟨_, rfl⟩
 obtain ⟨D, hD⟩ : ∃ k : Int, k = YP n d := ⟨_, rfl⟩
 have HN := Hd hN
 have HD := Hd hD
 have hlN : lz N <= 7282 := by rw [hN]; exact Nat.le_trans (lowN_lz n d) hln
 have hlD : lz D <= 7282 := by rw [hD]; exact Nat.le_trans (lowD_lz n d) hld
 clear hP C2 C3 t1 t2 t3 t4 htold hone hsg hN hD
 go_enter Tryz.func114, Tryz.ntmps114
 obtain ⟨W, E⟩ : ∃ W, W = (w.alloc (.cells #[.bool false, .slice none 0 0, .bool false, .slice none 0 0] 26)) := ⟨_, rfl⟩
 go_upto_region 1 with fail
 rw [<- E] at P_r0 HBW ⊢
 clear E
 go_upto_block 0 with fail
 go_cut [4] from 12 to 28 (fun s4 wc => s4 = .int .i64 P /\ wc = W)
 case first =>
  go_wp2_with fail
  go_loop [4, 5] (fun s4 s5 => ∃ a i : Nat, s4 = .int .i64 a /\ s5 = .int .i64 i /\ i <= s.size /\ a <= s.size /\ Hid ((a = s.size /\ i <= P) ∨ (a = P /\ P < s.size))) (fun _ s5 => s.size - (intOf s5).toNat)
  case atStart => exact ⟨s.size, 0, rfl, rfl, Nat.zero_le _, Nat.le_refl _, Hd (.inl ⟨rfl, Nat.zero_le _⟩)⟩
  case round =>
   obtain ⟨a, i, rfl, rfl, hi, ha, HI⟩ := hrel
   by_cases hlt : i < s.size
   . by_cases hae : a = s.size
     . have HI2 := Hd (show i <= P by rcases HI.out with h | h <;> omega)
       have a0 : (0 : Int) <= (i : Int) := by omega
       have a1 : (i : Int) < (s.size : Int) := by omega
       have hb := byte_at s i hlt
       obtain ⟨c, hc⟩ : ∃ c, s[i] = c := ⟨_, rfl⟩
       rw [hc] at hb
       have HBY := Hd hb
       have HLT := Hd hlt
       clear hb
       subst hae
       by_cases h1 : c = 47
       . have HP2 := Hd (show i = P /\ P < s.size by
          have := (front_step (by rw [<- HP.out]; exact HI2.out) HBY.out).1 h1
          rw [<- HP.out, <- Lib.size_eq] at this
          exact this)
         have a2 : (c.toNat : Int) = 47 := by rw [h1]; rfl
         clear h1
         go_wp2_with fail
         go_round
         case rel => exact ⟨i, i + 1, rfl, by go_num, HLT.out, by have := HLT.out; omega, Hd (.inr HP2.out)⟩
         case measure => simp [intOf]; have := HLT.out; omega
       . have HP2 := Hd (show i + 1 <= P by
          have := (front_step (by rw [<- HP.out]; exact HI2.out) HBY.out).2 h1
          rw [<- HP.out] at this
          exact this)
         have a2 : ((c.toNat : Int) == 47) = false := by
          simp
          intro e
          exact h1 (UInt8.toNat_inj.1 (by rw [show c.toNat = 47 by omega]; rfl))
         clear h1
         go_wp2_with fail
         go_round
         case rel => exact ⟨s.size, i + 1, rfl, by go_num, HLT.out, Nat.le_refl _, Hd (.inl ⟨rfl, HP2.out⟩)⟩
         case measure => simp [intOf]; have := HLT.out; omega
     . have a1 : (i : Int) < (s.size : Int) := by omega
       have a3 : ((a : Int) == (s.size : Int)) = false := by simp; omega
       have hP3 : a = P := by rcases HI.out with h | h <;> omega
       subst hP3
       clear HI
       go_wp2_with fail
       go_meet
       case rel => exact ⟨rfl, rfl⟩
   . have a1 : ¬ (i : Int) < (s.size : Int) := by omega
     have hP3 : a = P := by rcases HI.out with h | h <;> omega
     subst hP3
     clear HI
     go_wp2_with fail
     go_meet
     case rel => exact ⟨rfl, rfl⟩
 case rest =>
  obtain ⟨h4, hw⟩ := hcut
  subst h4 hw
  obtain ⟨W, hW⟩ : ∃ Y, Y = wc := ⟨_, rfl⟩
  subst hW
  have q0 : (0 : Int) <= (P : Int) := by omega
  have q1 : (P : Int) <= (s.size : Int) := by omega
  go_wp2_with fail
  refine (H2.out W).mono ?_
  rintro e x1 ⟨v, rfl, hI, hb⟩
  obtain ⟨A1, c1, rfl, r1⟩ := hI.raw
  have hI0 := hI.base (Nat.zero_le _)
  have P_r0 := Hd (P_r0.out.below hb)
  have HBW := Hd (Zb HBW.out hb)
  have R_n := Hd r1
  clear hb r1
  have O_n := Hd hI0
  clear hI hI0
  go_upto_region 8 with fail
  have ha := ((Below.refl x1.heap.size x1).alloc (Nat.le_refl _) (.cells #[.bool (decide (n < 0)), .slice A1 (Za n.natAbs).length c1] 24))
  have p_n := (Zr.new x1 24 (.bool (decide (n < 0))) (.slice A1 (Za n.natAbs).length c1))
  obtain ⟨y2, E⟩ : ∃ W, W = (x1.alloc (.cells #[.bool (decide (n < 0)), .slice A1 (Za n.natAbs).length c1] 24)) := ⟨_, rfl⟩
  rw [<- E] at ha p_n ⊢
  have V_n := Hd (NV.of R_n.out ha p_n)
  have P_r0 := Hd (P_r0.out.below ha)
  have O_n := Hd (O_n.out.below ha)
  have HBW := Hd (Zb HBW.out ha)
  obtain ⟨g2, hg⟩ : ∃ g, g = x1.heap.size := ⟨_, rfl⟩
  rw [<- hg] at V_n ⊢
  clear E ha hg p_n
  cases ok1
  case false =>
   have TT := Hd (T1.out rfl)
   clear T1 T2 T3 T4 H3
   obtain ⟨l_r0, a_r0, b_r0, f_r0, g_r0⟩ := P_r0.out.facts
   have HQ := Hd (P_r0.out.store (.bool false) (.slice none 0 0) (.bool false) (.slice none 0 0))
   have HB := Hd (YR HBW.out (show w.heap.size <= w.heap.size by omega) (.bool false) (.slice none 0 0) (.bool false) (.slice none 0 0))
   go_wp2_with fail
   obtain ⟨_, k0, k1, k2, k3, _, _, _, _⟩ := HQ.out.facts
   exact bodyPost_ret (by simp [results, Tryz.results114, go_sem, k0, k1, k2, k3]) rfl ⟨0, 0, false, ⟨_, rfl, ZE.zero _ _, HB.out⟩, TT.out⟩
  case true =>
   by_cases hps : P = s.size
   . have q2 : ((P : Int) == (s.size : Int)) = true := by simp; omega
     have TT := Hd (T2.out rfl hps)
     clear T1 T2 T3 T4 H3
     obtain ⟨l_n, a_n, b_n, -, -⟩ := V_n.out.pair.facts
     go_wp2_with fail
     refine (ref02_Whole n one A1 c1 y2 V_n.out.raw O_n.out HONE.out).mono ?_
     rintro e x3 ⟨v, rfl, hF, hb⟩
     obtain ⟨A6, c6, A7, c7, rfl, -⟩ := hF.form
     clear l_n a_n b_n
     have V_n := Hd (V_n.out.below hb)
     have P_r0 := Hd (P_r0.out.below hb)
     have O_n := Hd (O_n.out.below hb)
     have HBW := Hd (Zb HBW.out hb)
     clear hb
     have HF := Hd hF
     clear hF
     obtain ⟨l_r0, a_r0, b_r0, f_r0, g_r0⟩ := P_r0.out.facts
     have HQ := Hd (P_r0.out.store (.bool (decide (n < 0))) (.slice A6 (Za n.natAbs).length c6) (.bool (decide (one < 0))) (.slice A7 (Za one.natAbs).length c7))
     have HB := Hd (YR HBW.out (show w.heap.size <= w.heap.size by omega) (.bool (decide (n < 0))) (.slice A6 (Za n.natAbs).length c6) (.bool (decide (one < 0))) (.slice A7 (Za one.natAbs).length c7))
     have HF9 := Hd (HF.out.quad P_r0.out (.bool (decide (n < 0))) (.slice A6 (Za n.natAbs).length c6) (.bool (decide (one < 0))) (.slice A7 (Za one.natAbs).length c7))
     go_wp2_with fail
     obtain ⟨_, k0, k1, k2, k3, _, _, _, _⟩ := HQ.out.facts
     exact bodyPost_ret (by simp [results, Tryz.results114, go_sem, k0, k1, k2, k3]) rfl ⟨n, one, true, ⟨_, rfl, HF9.out, HB.out⟩, by rw [HONE.out]; exact TT.out⟩
   . have HPL := Hd (show P < s.size by omega)
     have q2 : ((P : Int) == (s.size : Int)) = false := by simp; omega
     have q3 : (P : Int) + 1 <= (s.size : Int) := by omega
     have q4 : (0 : Int) <= (P : Int) + 1 := by omega
     have q5 : IntKind.i64.wrap ((P : Int) + 1) = (P : Int) + 1 := by apply IntWalk.i64_in <;> omega
     have q6 : ((P : Int) + 1).toNat = P + 1 := by omega
     have H4 := Hd (H3.out HPL.out)
     have U3 := Hd (T3.out rfl HPL.out)
     have U4 := Hd (T4.out rfl HPL.out)
     clear hps T1 T2 T3 T4 H3
     go_wp2_with fail
     refine (H4.out y2).mono ?_
     rintro e x3 ⟨v, rfl, hI, hb⟩
     obtain ⟨A2, c2, rfl, r1⟩ := hI.raw
     have hI0 := hI.base (Nat.zero_le _)
     have V_n := Hd (V_n.out.below hb)
     have P_r0 := Hd (P_r0.out.below hb)
     have O_n := Hd (O_n.out.below hb)
     have HBW := Hd (Zb HBW.out hb)
     have R_d := Hd r1
     clear hb r1
     have O_d := Hd hI0
     clear hI hI0
     go_upto_region 13 with fail
     have ha := ((Below.refl x3.heap.size x3).alloc (Nat.le_refl _) (.cells #[.bool (decide (d < 0)), .slice A2 (Za d.natAbs).length c2] 24))
     have p_d := (Zr.new x3 24 (.bool (decide (d < 0))) (.slice A2 (Za d.natAbs).length c2))
     obtain ⟨y4, E⟩ : ∃ W, W = (x3.alloc (.cells #[.bool (decide (d < 0)), .slice A2 (Za d.natAbs).length c2] 24)) := ⟨_, rfl⟩
     rw [<- E] at ha p_d ⊢
     have V_d := Hd (NV.of R_d.out ha p_d)
     have V_n := Hd (V_n.out.below ha)
     have P_r0 := Hd (P_r0.out.below ha)
     have O_n := Hd (O_n.out.below ha)
     have O_d := Hd (O_d.out.below ha)
     have HBW := Hd (Zb HBW.out ha)
     obtain ⟨g4, hg⟩ : ∃ g, g = x3.heap.size := ⟨_, rfl⟩
     rw [<- hg] at V_d ⊢
     clear E ha hg p_d
     cases ok2
     case false =>
       have TT := Hd (U3.out (.inl rfl))
       clear U3 U4
       obtain ⟨l_r0, a_r0, b_r0, f_r0, g_r0⟩ := P_r0.out.facts
       have HQ := Hd (P_r0.out.store (.bool false) (.slice none 0 0) (.bool false) (.slice none 0 0))
       have HB := Hd (YR HBW.out (show w.heap.size <= w.heap.size by omega) (.bool false) (.slice none 0 0) (.bool false) (.slice none 0 0))
       go_wp2_with fail
       obtain ⟨_, k0, k1, k2, k3, _, _, _, _⟩ := HQ.out.facts
       exact bodyPost_ret (by simp [results, Tryz.results114, go_sem, k0, k1, k2, k3]) rfl ⟨0, 0, false, ⟨_, rfl, ZE.zero _ _, HB.out⟩, TT.out⟩
     case true =>
       have U5 := Hd (U4.out rfl)
       clear U4
       by_cases hd : d <= 0
       . have HLE := Hd (show decide (sg <= 0) = true from decide_eq_true (by rw [HSG.out]; exact Int.sign_nonpos_iff.2 hd))
         have TT := Hd (U3.out (.inr hd))
         clear U3 U5
         obtain ⟨l_d, a_d, b_d, -, -⟩ := V_d.out.pair.facts
         go_wp2_with fail
         refine (rsign d sg A2 c2 y4 V_d.out.raw HSG.out).mono ?_
         rintro e x5 ⟨rfl, hb⟩
         clear l_d a_d b_d
         have V_n := Hd (V_n.out.below hb)
         have V_d := Hd (V_d.out.below hb)
         have P_r0 := Hd (P_r0.out.below hb)
         have O_n := Hd (O_n.out.below hb)
         have O_d := Hd (O_d.out.below hb)
         have HBW := Hd (Zb HBW.out hb)
         clear hb
         have hle := HLE.out
         obtain ⟨l_r0, a_r0, b_r0, f_r0, g_r0⟩ := P_r0.out.facts
         have HQ := Hd (P_r0.out.store (.bool false) (.slice none 0 0) (.bool false) (.slice none 0 0))
         have HB := Hd (YR HBW.out (show w.heap.size <= w.heap.size by omega) (.bool false) (.slice none 0 0) (.bool false) (.slice none 0 0))
         go_wp2_with fail
         obtain ⟨_, k0, k1, k2, k3, _, _, _, _⟩ := HQ.out.facts
         exact bodyPost_ret (by simp [results, Tryz.results114, go_sem, k0, k1, k2, k3]) rfl ⟨0, 0, false, ⟨_, rfl, ZE.zero _ _, HB.out⟩, TT.out⟩
       . have HLE := Hd (show decide (sg <= 0) = false from decide_eq_false (by rw [HSG.out, Int.sign_eq_one_of_pos (by omega)]; decide))
         have HD0 := Hd (show 0 < d by omega)
         have T4 := Hd (U5.out HD0.out)
         clear U3 U5 hd
         obtain ⟨l_d, a_d, b_d, -, -⟩ := V_d.out.pair.facts
         go_wp2_with fail
         refine (rsign d sg A2 c2 y4 V_d.out.raw HSG.out).mono ?_
         rintro e x5 ⟨rfl, hb⟩
         clear l_d a_d b_d
         have V_n := Hd (V_n.out.below hb)
         have V_d := Hd (V_d.out.below hb)
         have P_r0 := Hd (P_r0.out.below hb)
         have O_n := Hd (O_n.out.below hb)
         have O_d := Hd (O_d.out.below hb)
         have HBW := Hd (Zb HBW.out hb)
         clear hb
         have hle := HLE.out
         obtain ⟨l_n, a_n, b_n, -, -⟩ := V_n.out.pair.facts
         obtain ⟨l_d, a_d, b_d, -, -⟩ := V_d.out.pair.facts
         go_wp2_with fail
         refine (rlowP n d A1 A2 c1 c2 x5 V_n.out.raw V_d.out.raw (by omega) (by omega) HD0.out).mono ?_
         rintro e x6 ⟨v, rfl, hF, hb⟩
         rw [<- HN.out, <- HD.out] at hF
         obtain ⟨A6, c6, A7, c7, rfl, hF1, hF2⟩ := hF.form
         clear l_n a_n b_n l_d a_d b_d
         have V_n := Hd (V_n.out.below hb)
         have V_d := Hd (V_d.out.below hb)
         have P_r0 := Hd (P_r0.out.below hb)
         have O_n := Hd (O_n.out.below hb)
         have O_d := Hd (O_d.out.below hb)
         have HBW := Hd (Zb HBW.out hb)
         clear hb
         have O_N := Hd hF1
         have O_D := Hd hF2
         clear hF hF1 hF2 hle
         go_upto_region 16 with fail
         have ha := (Below.refl x6.heap.size x6).alloc (Nat.le_refl _) (.cells #[.bool (decide (N < 0)), .slice A6 (Za N.natAbs).length c6, .bool (decide (D < 0)), .slice A7 (Za D.natAbs).length c7] 26)
         have pp := Zz.new x6 (.bool (decide (N < 0))) (.slice A6 (Za N.natAbs).length c6) (.bool (decide (D < 0))) (.slice A7 (Za D.natAbs).length c7)
         have hszr := P_r0.out.blk.lt
         obtain ⟨y9, E⟩ : ∃ Y, Y = x6.alloc (.cells #[.bool (decide (N < 0)), .slice A6 (Za N.natAbs).length c6, .bool (decide (D < 0)), .slice A7 (Za D.natAbs).length c7] 26) := ⟨_, rfl⟩
         rw [<- E] at ha pp ⊢
         have V_n := Hd (V_n.out.below ha)
         have V_d := Hd (V_d.out.below ha)
         have P_r0 := Hd (P_r0.out.below ha)
         have O_n := Hd (O_n.out.below ha)
         have O_d := Hd (O_d.out.below ha)
         have O_N := Hd (O_N.out.below ha)
         have O_D := Hd (O_D.out.below ha)
         have HBW := Hd (Zb HBW.out ha)
         obtain ⟨gq, hg⟩ : ∃ g, g = x6.heap.size := ⟨_, rfl⟩
         have hgr : gq ≠ w.heap.size := by omega
         rw [<- hg] at pp ⊢
         have V_q := Hd pp
         clear E ha hg pp hszr
         go_wp2_with fail
         have H9 := Hd (fun (V : World) (a : Zm V A6 c6 (Za N.natAbs)) (b : Zm V A7 c7 (Za D.natAbs)) => ref02_Digits N D A6 A7 c6 c7 V a b (by omega) (by omega))
         rw [<- HN.out, <- HD.out] at HTD
         cases told
         case true =>
          have hs2 : (⟨(Zk N D).toArray⟩ : ByteArray) = s := by rw [of_decide_eq_true HTD.out.symm]
          have H9 := Hd (fun V a b => hs2 ▸ H9.out V a b)
          clear hs2
          refine Zd [.val (.agg #[.bool (decide (N < 0)), .slice A6 (Za N.natAbs).length c6, .bool (decide (D < 0)), .slice A7 (Za D.natAbs).length c7]) [999], .val (.agg #[.bool (decide (N < 0)), .slice A6 (Za N.natAbs).length c6, .bool (decide (D < 0)), .slice A7 (Za D.natAbs).length c7]) [999], .val (.string s) [999], .val (.string s) [], .val (.bool true) [], .old (w.heap.size) 26 #[.bool false, .slice none 0 0, .bool false, .slice none 0 0] 0 4 0 [], .val (.bool true) []] (w.heap.size) y9 [26] (fun _ _ => False) _ Zf (by have := P_r0.out.blk.lt; omega) (Below.refl _ _) (Zu.refl _ _ _) rfl ?_ ?_ ?_ ?_ ?_ ?_ ?_ ?_ rfl (by simp [ZP]) ?_ ?_ ?_ ?_
          iterate 8 kernel_rfl
          . simp only [Zy]
          . simp only [Z5, and_true]
            exact ⟨Nat.le_refl _, P_r0.out.blk.lt, P_r0.out.blk, by simp⟩
          . simp (maxSteps := 4000000) [ZH, YD, ZP, Zg, ZF, Zn]
            repeat' (first | apply And.intro | (intro (u : Value)) | (intro (u : Nat)))
            all_goals try exact ⟨_, _, _, rfl, rfl, rfl, rfl, YN⟩
            all_goals first
            | exact fun _ _ _ => ⟨rfl, by simp [Value.cells, Value.oneCell']⟩
            | (intro V hV hK ho
               have pq9 : Zz V gq _ _ _ _ := ⟨(ho gq V_q.out.blk.lt hgr).trans V_q.out.blk⟩
               obtain ⟨-, a_q, b_q, c_q, d_q, -, -, -, -⟩ := pq9.facts
               have r_N := Hd (O_N.out.kept hK (by decide)).rawAt
               have r_D := Hd (O_D.out.kept hK (by decide)).rawAt
               clear hV hK ho pq9
               go_simp
               first
               | exact Below.refl _ _
               | ((with_reducible refine (H9.out V r_N.out r_D.out).mono ?_); rintro e w' ⟨rfl, hb⟩; exact ⟨rfl, hb⟩))
            | (intro V hV hK
               clear hV hK
               go_simp
               exact Below.refl _ _)
          . simp [YH, ZK, Zg, ZF, Zn, Yd, Value.cells]
            intro V hV hK bq _ _ _
            have k0 := bq.cell 0
            have k1 := bq.cell 1
            have k2 := bq.cell 2
            have k3 := bq.cell 3
            simp at k0 k1 k2 k3
            have HF := Hd (show ZE V 0 (.agg #[.bool (decide (N < 0)), .slice A6 (Za N.natAbs).length c6, .bool (decide (D < 0)), .slice A7 (Za D.natAbs).length c7]) N D from ⟨_, _, _, _, rfl, O_N.out.kept hK (by decide), O_D.out.kept hK (by decide)⟩)
            have HB := Hd (HBW.out.trans (hV.mono (by omega)))
            clear hV hK bq
            go_wp2_with fail
            exact bodyPost_ret (by simp [results, Tryz.results114, go_sem, k0, k1, k2, k3]) rfl ⟨N, D, true, ⟨_, rfl, HF.out, HB.out⟩, by rw [HN.out, HD.out]; exact T4.out⟩
         case false =>
          have hne := of_decide_eq_false HTD.out.symm
          obtain ⟨t, ht⟩ : ∃ t : ByteArray, t = ⟨(Zk N D).toArray⟩ := ⟨_, rfl⟩
          have HTU := Hd (show ¬ t.toList = s.toList by rw [ByteArray.toList_eq, ByteArray.toList_eq, ht]; exact hne)
          have HTV := Hd (show (t.toList == s.toList) = false by rw [beq_eq_false_iff_ne]; exact HTU.out)
          have HTW := Hd (show ¬ t = s by intro e; exact HTU.out (by rw [e]))
          have H9 := Hd (fun V a b => ht ▸ H9.out V a b)
          clear hne ht
          refine Zd [.val (.agg #[.bool (decide (N < 0)), .slice A6 (Za N.natAbs).length c6, .bool (decide (D < 0)), .slice A7 (Za D.natAbs).length c7]) [999], .val (.agg #[.bool (decide (N < 0)), .slice A6 (Za N.natAbs).length c6, .bool (decide (D < 0)), .slice A7 (Za D.natAbs).length c7]) [999], .val (.string t) [999], .val (.string s) [], .val (.bool false) [], .old (w.heap.size) 26 #[.bool false, .slice none 0 0, .bool false, .slice none 0 0] 0 4 0 [], .val (.bool false) []] (w.heap.size) y9 [26] (fun _ _ => False) _ Zf (by have := P_r0.out.blk.lt; omega) (Below.refl _ _) (Zu.refl _ _ _) rfl ?_ ?_ ?_ ?_ ?_ ?_ ?_ ?_ rfl (by simp [ZP]) ?_ ?_ ?_ ?_
          iterate 8 kernel_rfl
          . simp only [Zy]
          . simp only [Z5, and_true]
            exact ⟨Nat.le_refl _, P_r0.out.blk.lt, P_r0.out.blk, by simp⟩
          . simp (maxSteps := 4000000) [ZH, YD, ZP, Zg, ZF, Zn]
            repeat' (first | apply And.intro | (intro (u : Value)) | (intro (u : Nat)))
            all_goals try exact ⟨_, _, _, rfl, rfl, rfl, rfl, YN⟩
            all_goals first
            | exact fun _ _ _ => ⟨rfl, by simp [Value.cells, Value.oneCell']⟩
            | (intro V hV hK ho
               have pq9 : Zz V gq _ _ _ _ := ⟨(ho gq V_q.out.blk.lt hgr).trans V_q.out.blk⟩
               obtain ⟨-, a_q, b_q, c_q, d_q, -, -, -, -⟩ := pq9.facts
               have r_N := Hd (O_N.out.kept hK (by decide)).rawAt
               have r_D := Hd (O_D.out.kept hK (by decide)).rawAt
               clear hV hK ho pq9
               go_simp
               first
               | exact Below.refl _ _
               | ((with_reducible refine (H9.out V r_N.out r_D.out).mono ?_); rintro e w' ⟨rfl, hb⟩; exact ⟨rfl, hb⟩))
            | (intro V hV hK
               clear hV hK
               have htu := HTU.out
               have htv := HTV.out
               have htw := HTW.out
               go_simp
               exact Below.refl _ _)
          . simp [YH, ZK, Zg, ZF, Zn, Yd, Value.cells]
            intro V hV hK bq _ _ _
            have k0 := bq.cell 0
            have k1 := bq.cell 1
            have k2 := bq.cell 2
            have k3 := bq.cell 3
            simp at k0 k1 k2 k3
            have HF := Hd (show ZE V 0 (.agg #[.bool (decide (N < 0)), .slice A6 (Za N.natAbs).length c6, .bool (decide (D < 0)), .slice A7 (Za D.natAbs).length c7]) N D from ⟨_, _, _, _, rfl, O_N.out.kept hK (by decide), O_D.out.kept hK (by decide)⟩)
            have HB := Hd (HBW.out.trans (hV.mono (by omega)))
            clear hV hK bq
            go_wp2_with fail
            exact bodyPost_ret (by simp [results, Tryz.results114, go_sem, k0, k1, k2, k3]) rfl ⟨N, D, false, ⟨_, rfl, HF.out, HB.out⟩, by rw [HN.out, HD.out]; exact T4.out⟩

theorem ref02_Read (s : ByteArray) (hs : s.size <= 65536) (w : World) :
   Calls Tryz.prog 114 #[.string s] w (Xt w (Yf s.data.toList)) := by
 have hsl : s.data.toList.length <= 65536 := by rw [<- Lib.size_eq]; exact hs
 have hfl := front_le s.data.toList
 have hbl := back_le s.data.toList
 have C2 : ∀ V, Calls Tryz.prog 187 #[.string (s.extract 0 (ZA s.data.toList).length)] V (RetZB V ((Yy (ZA s.data.toList)).getD 0) (Yy (ZA s.data.toList)).isSome) := fun V => by
   rw [ext_front_any]
   exact ref_Read ⟨(ZA s.data.toList).toArray⟩ (by simpa [ByteArray.size] using Nat.le_trans hfl hsl) V
 have C3 : (ZA s.data.toList).length < s.size -> ∀ V, Calls Tryz.prog 187 #[.string (s.extract ((ZA s.data.toList).length + 1) s.size)] V (RetZB V ((Yy (YQ s.data.toList)).getD 0) (Yy (YQ s.data.toList)).isSome) := fun _ V => by
   rw [ext_back]
   exact ref_Read ⟨(YQ s.data.toList).toArray⟩ (by simpa [ByteArray.size] using Nat.le_trans hbl hsl) V
 have hln : lz ((Yy (ZA s.data.toList)).getD 0) <= 7282 := by
   cases hz : Yy (ZA s.data.toList) with
   | none => decide
   | some n => exact lz_read hz (Nat.le_trans hfl hsl)
 have hld : lz ((Yy (YQ s.data.toList)).getD 0) <= 7282 := by
   cases hz : Yy (YQ s.data.toList) with
   | none => decide
   | some n => exact lz_read hz (Nat.le_trans hbl hsl)
 have hmem : (47 : UInt8) ∈ s.data.toList ↔ (ZA s.data.toList).length < s.size := by rw [Lib.size_eq]; exact front_mem
 have hle := front_size s
 refine (ref02_Read_all s _ _ _ _ _ _ w hs rfl C2 C3 hln hld rfl (fun N D B => B = (Yf s.data.toList).isSome /\ ∀ p, Yf s.data.toList = some p -> p = (N, D)) ?_ ?_ ?_ ?_).mono fun e w' ⟨N, D, B, h, hB, hp⟩ => ⟨N, D, hB ▸ h, hp⟩
 . intro h1
   cases hz : Yy (ZA s.data.toList) with
   | none => unfold Yf; rw [hz]; exact ⟨rfl, fun p hp => by cases hp⟩
   | some n => rw [hz] at h1; cases h1
 . intro h1 hps
   cases hz : Yy (ZA s.data.toList) with
   | none => rw [hz] at h1; cases h1
   | some n =>
    unfold Yf
    rw [hz]
    simp only
    rw [if_neg (by rw [hmem]; omega)]
    exact ⟨rfl, fun p hp => (Option.some.inj hp).symm⟩
 . intro h1 hps h2
   cases hz : Yy (ZA s.data.toList) with
   | none => rw [hz] at h1; cases h1
   | some n =>
    unfold Yf
    rw [hz]
    simp only
    rw [if_pos (hmem.2 hps)]
    cases hy : Yy (YQ s.data.toList) with
    | none => exact ⟨rfl, fun p hp => by cases hp⟩
    | some d =>
     rw [hy] at h2
     simp only [Option.isSome_some, Option.getD_some] at h2 ⊢
     rw [if_neg (fun h => by rcases h2 with h2 | h2; cases h2; omega)]
     exact ⟨rfl, fun p hp => by cases hp⟩
 . intro h1 hps h2 h3
   cases hz : Yy (ZA s.data.toList) with
   | none => rw [hz] at h1; cases h1
   | some n =>
    cases hy : Yy (YQ s.data.toList) with
    | none => rw [hy] at h2; cases h2
    | some d =>
     rw [hy] at h3
     have h3 : 0 < d := h3
     have hlt := lowest_told (hmem.2 hps) hz hy h3
     unfold Yf
     rw [hz, hy]
     simp only [Option.getD_some]
     rw [if_pos (hmem.2 hps)]
     by_cases hg : d ≠ 1 /\ ZL n d = 1
     . rw [if_pos ⟨h3, hg.1, hg.2⟩]
       have h4 := Kk n h3
       rw [hg.2, Int.mul_one, Int.mul_one] at h4
       exact ⟨decide_eq_true (hlt.2 hg), fun p hp => by rw [h4.1, h4.2]; exact (Option.some.inj hp).symm⟩
     . rw [if_neg (fun h => hg h.2)]
       exact ⟨decide_eq_false (fun h => hg (hlt.1 h)), fun p hp => by cases hp⟩

def txtT (b : Bool) (t : ByteArray) : ByteArray := if b then (if t.size <= 65536 then t else ⟨#[]⟩) else ⟨#[]⟩
def txtK (b : Bool) (t : ByteArray) : Int := if b then (if t.size <= 65536 then 0 else 4) else 1
theorem XV {t : ByteArray} (h : t.size <= 65536) : txtT true t = t /\ txtK true t = 0 := by unfold txtT txtK; simp [h]
theorem XU {t : ByteArray} (h : ¬ t.size <= 65536) : txtT true t = ⟨#[]⟩ /\ txtK true t = 4 := by unfold txtT txtK; simp [h]
def fprN (s : List UInt8) : Int := if 65536 < s.length then 0 else match Yf s with
 | none => 0
 | some p => ansN p.1 p.2
def fprD (s : List UInt8) : Int := if 65536 < s.length then 0 else match Yf s with
 | none => 0
 | some p => ansD p.1 p.2
def fprK (s : List UInt8) : Int := if 65536 < s.length then 4 else match Yf s with
 | none => 5
 | some p => ansK p.1 p.2

def RetPrsO (w : World) (T : Int -> Int -> Int -> Prop) (e : Ending) (w' : World) : Prop := ∃ N D K, RetFracOwn2 w.heap.size w N D K e w' /\ T N D K

def RetPrsR (w : World) (T : Int -> Int -> Int -> Prop) (e : Ending) (w' : World) : Prop := ∃ N D K, RetFrac2 w N D K e w' /\ T N D K


abbrev Jh (F : FuncId) (n d : Int) (t : ByteArray) : Prop := ∀ (V : World) (v : Value), ZM V -> Yq V v n d -> Calls Tryz.prog F #[v] V fun e w' => e = .returned (.string t) /\ Below V.heap.size V w'

theorem gauss_second_one {n d : Int} (C1 : Jh 22 n d ⟨#[49]⟩) (w : World) (v_y : Value) (g_y : Yq w v_y n d) (htab : ZM w) :
  Calls Tryz.prog 23 #[v_y] w (fun e w' => e = .returned (.string ⟨#[105]⟩) /\ Below w.heap.size w w') := by
 obtain ⟨Ay1, cy1, Ay2, cy2, rfl, -⟩ := g_y.form
 have HT := Hd htab
 clear htab
 have H1 := Hd C1
 clear C1
 have G_y := Hd g_y
 clear g_y
 go_enter Tryz.func23, Tryz.ntmps23
 go_upto_region 1 with fail
 refine Zp (P := fun W => Code.wp _ _ _ _ W) fun W p0 b0 => ?_
 have P_y := Hd (Zz.mk p0)
 have HB := Hd b0
 clear b0 p0
 obtain ⟨-, y0, y1, y2, y3, -, -, -, -⟩ := P_y.out.facts
 go_wp2_with fail
 refine (H1.out W _ (HT.out.below2 HB.out) (G_y.out.below HB.out)).mono ?_
 rintro e wx1 ⟨rfl, hb⟩
 clear y0 y1 y2 y3
 have P_y := Hd (P_y.out.below hb)
 have HB := Hd (Zb HB.out hb)
 clear hb
 go_wp2_with fail
 go_ret
 exact ⟨rfl, HB.out⟩

theorem gauss_second_minus {n d : Int} (C1 : Jh 22 n d ⟨#[45, 49]⟩) (w : World) (v_y : Value) (g_y : Yq w v_y n d) (htab : ZM w) :
  Calls Tryz.prog 23 #[v_y] w (fun e w' => e = .returned (.string ⟨#[45, 105]⟩) /\ Below w.heap.size w w') := by
 obtain ⟨Ay1, cy1, Ay2, cy2, rfl, -⟩ := g_y.form
 have HT := Hd htab
 clear htab
 have H1 := Hd C1
 clear C1
 have G_y := Hd g_y
 clear g_y
 go_enter Tryz.func23, Tryz.ntmps23
 go_upto_region 1 with fail
 refine Zp (P := fun W => Code.wp _ _ _ _ W) fun W p0 b0 => ?_
 have P_y := Hd (Zz.mk p0)
 have HB := Hd b0
 clear b0 p0
 obtain ⟨-, y0, y1, y2, y3, -, -, -, -⟩ := P_y.out.facts
 go_wp2_with fail
 refine (H1.out W _ (HT.out.below2 HB.out) (G_y.out.below HB.out)).mono ?_
 rintro e wx1 ⟨rfl, hb⟩
 clear y0 y1 y2 y3
 have P_y := Hd (P_y.out.below hb)
 have HB := Hd (Zb HB.out hb)
 clear hb
 go_wp2_with fail
 go_ret
 exact ⟨rfl, HB.out⟩

theorem J2 {n d : Int} (t u : ByteArray) (C1 : Jh 22 n d t) (h1 : ¬ t.data.toList = [49]) (h2 : ¬ t.data.toList = [45, 49]) (hs : t.size < 9223372036854775807) (hu : u = t ++ ⟨#[105]⟩) (w : World) (v_y : Value) (g_y : Yq w v_y n d) (htab : ZM w) :
  Calls Tryz.prog 23 #[v_y] w (fun e w' => e = .returned (.string u) /\ Below w.heap.size w w') := by
 obtain ⟨Ay1, cy1, Ay2, cy2, rfl, -⟩ := g_y.form
 have HT := Hd htab
 clear htab
 have H1 := Hd C1
 clear C1
 have hb : (t.toList == [49]) = false := by rw [ByteArray.toList_eq, beq_eq_false_iff_ne]; exact h1
 have hd : (t.toList == [45, 49]) = false := by rw [ByteArray.toList_eq, beq_eq_false_iff_ne]; exact h2
 have he : ¬ 9223372036854775807 < t.size + 1 := by omega
 have HU := Hd hu
 clear h1 h2 hs hu
 have G_y := Hd g_y
 clear g_y
 go_enter Tryz.func23, Tryz.ntmps23
 go_upto_region 1 with fail
 refine Zp (P := fun W => Code.wp _ _ _ _ W) fun W p0 b0 => ?_
 have P_y := Hd (Zz.mk p0)
 have HB := Hd b0
 clear b0 p0
 obtain ⟨-, y0, y1, y2, y3, -, -, -, -⟩ := P_y.out.facts
 go_wp2_with fail
 refine (H1.out W _ (HT.out.below2 HB.out) (G_y.out.below HB.out)).mono ?_
 rintro e wx1 ⟨rfl, hb⟩
 clear y0 y1 y2 y3
 have P_y := Hd (P_y.out.below hb)
 have HB := Hd (Zb HB.out hb)
 clear hb
 go_wp2_with fail
 go_ret
 exact ⟨by rw [HU.out]; rfl, HB.out⟩

theorem ref03_second_one {n d : Int} (C1 : Jh 112 n d ⟨#[49]⟩) (w : World) (v_y : Value) (g_y : Yq w v_y n d) (htab : ZM w) :
  Calls Tryz.prog 113 #[v_y] w (fun e w' => e = .returned (.string ⟨#[105]⟩) /\ Below w.heap.size w w') := by
 obtain ⟨Ay1, cy1, Ay2, cy2, rfl, -⟩ := g_y.form
 have HT := Hd htab
 clear htab
 have H1 := Hd C1
 clear C1
 have G_y := Hd g_y
 clear g_y
 go_enter Tryz.func113, Tryz.ntmps113
 go_upto_region 1 with fail
 refine Zp (P := fun W => Code.wp _ _ _ _ W) fun W p0 b0 => ?_
 have P_y := Hd (Zz.mk p0)
 have HB := Hd b0
 clear b0 p0
 obtain ⟨-, y0, y1, y2, y3, -, -, -, -⟩ := P_y.out.facts
 go_wp2_with fail
 refine (H1.out W _ (HT.out.below2 HB.out) (G_y.out.below HB.out)).mono ?_
 rintro e wx1 ⟨rfl, hb⟩
 clear y0 y1 y2 y3
 have P_y := Hd (P_y.out.below hb)
 have HB := Hd (Zb HB.out hb)
 clear hb
 go_wp2_with fail
 go_ret
 exact ⟨rfl, HB.out⟩

theorem ref03_second_minus {n d : Int} (C1 : Jh 112 n d ⟨#[45, 49]⟩) (w : World) (v_y : Value) (g_y : Yq w v_y n d) (htab : ZM w) :
  Calls Tryz.prog 113 #[v_y] w (fun e w' => e = .returned (.string ⟨#[45, 105]⟩) /\ Below w.heap.size w w') := by
 obtain ⟨Ay1, cy1, Ay2, cy2, rfl, -⟩ := g_y.form
 have HT := Hd htab
 clear htab
 have H1 := Hd C1
 clear C1
 have G_y := Hd g_y
 clear g_y
 go_enter Tryz.func113, Tryz.ntmps113
 go_upto_region 1 with fail
 refine Zp (P := fun W => Code.wp _ _ _ _ W) fun W p0 b0 => ?_
 have P_y := Hd (Zz.mk p0)
 have HB := Hd b0
 clear b0 p0
 obtain ⟨-, y0, y1, y2, y3, -, -, -, -⟩ := P_y.out.facts
 go_wp2_with fail
 refine (H1.out W _ (HT.out.below2 HB.out) (G_y.out.below HB.out)).mono ?_
 rintro e wx1 ⟨rfl, hb⟩
 clear y0 y1 y2 y3
 have P_y := Hd (P_y.out.below hb)
 have HB := Hd (Zb HB.out hb)
 clear hb
 go_wp2_with fail
 go_ret
 exact ⟨rfl, HB.out⟩

theorem ref03_second_more {n d : Int} (t u : ByteArray) (C1 : Jh 112 n d t) (h1 : ¬ t.data.toList = [49]) (h2 : ¬ t.data.toList = [45, 49]) (hs : t.size < 9223372036854775807) (hu : u = t ++ ⟨#[105]⟩) (w : World) (v_y : Value) (g_y : Yq w v_y n d) (htab : ZM w) :
  Calls Tryz.prog 113 #[v_y] w (fun e w' => e = .returned (.string u) /\ Below w.heap.size w w') := by
 obtain ⟨Ay1, cy1, Ay2, cy2, rfl, -⟩ := g_y.form
 have HT := Hd htab
 clear htab
 have H1 := Hd C1
 clear C1
 have hb : (t.toList == [49]) = false := by rw [ByteArray.toList_eq, beq_eq_false_iff_ne]; exact h1
 have hd : (t.toList == [45, 49]) = false := by rw [ByteArray.toList_eq, beq_eq_false_iff_ne]; exact h2
 have he : ¬ 9223372036854775807 < t.size + 1 := by omega
 have HU := Hd hu
 clear h1 h2 hs hu
 have G_y := Hd g_y
 clear g_y
 go_enter Tryz.func113, Tryz.ntmps113
 go_upto_region 1 with fail
 refine Zp (P := fun W => Code.wp _ _ _ _ W) fun W p0 b0 => ?_
 have P_y := Hd (Zz.mk p0)
 have HB := Hd b0
 clear b0 p0
 obtain ⟨-, y0, y1, y2, y3, -, -, -, -⟩ := P_y.out.facts
 go_wp2_with fail
 refine (H1.out W _ (HT.out.below2 HB.out) (G_y.out.below HB.out)).mono ?_
 rintro e wx1 ⟨rfl, hb⟩
 clear y0 y1 y2 y3
 have P_y := Hd (P_y.out.below hb)
 have HB := Hd (Zb HB.out hb)
 clear hb
 go_wp2_with fail
 go_ret
 exact ⟨by rw [HU.out]; rfl, HB.out⟩

theorem gauss_Text_A {n d m f s0 s1 : Int} {t1 u : ByteArray} (C1 : MayG 20 (decide (n < 0)) (decide (d < 0)) (decide (m < 0)) (decide (f < 0)) (Za n.natAbs) (Za d.natAbs) (Za m.natAbs) (Za f.natAbs) true) (C2 : XE 21 n d s0) (C3 : XE 21 m f s1) (z0 : (s0 == 0) = false) (z1 : (s1 == 0) = true) (z2 : s1 <= 0) (C4 : Jh 22 n d t1) (hu : u = t1) (w : World) (v_x : Value) (g_x : Zq w v_x n d m f) (htab : ZM w) :
   Calls Tryz.prog 8 #[v_x] w (fun e w' => e = .returned (.tuple #[.string (txtT true u), .int .i64 (txtK true u)]) /\ Below w.heap.size w w') := by
 obtain ⟨Ax1, cx1, Ax2, cx2, Ax3, cx3, Ax4, cx4, rfl, -⟩ := g_x.form
 have HT := Hd htab
 clear htab
 have HU := Hd hu
 have hsz : (u.size : Int) = (t1.size : Int) := by
   rw [hu]
 have z3 : (s0 != 0) = true := by rw [bne, z0]; rfl
 have z4 : (s1 != 0) = false := by rw [bne, z1]; rfl
 have HSZ := Hd hsz
 clear hu hsz
 have H1 := Hd C1
 have H2 := Hd C2
 have H3 := Hd C3
 have H4 := Hd C4
 clear C1 C2 C3 C4
 have G_x := Hd g_x
 clear g_x
 go_enter Tryz.func8, Tryz.ntmps8
 go_upto_region 1 with fail
 refine Zp (P := fun W => Code.wp _ _ _ _ W) fun W p0 b0 => ?_
 have P_x := Hd (Yl.mk p0)
 have HB := Hd b0
 clear b0 p0
 obtain ⟨-, x0, x1, x2, x3, x4, x5, x6, x7⟩ := P_x.out.facts
 go_wp2_with fail
 refine (H1.out W _ (G_x.out.below HB.out).raw).mono ?_
 rintro e wx1 ⟨rfl, hb⟩
 clear x0 x1 x2 x3 x4 x5 x6 x7
 have P_x := Hd (P_x.out.below hb)
 have HB := Hd (Zb HB.out hb)
 clear hb
 obtain ⟨-, x0, x1, x2, x3, x4, x5, x6, x7⟩ := P_x.out.facts
 go_wp2_with fail
 refine (H2.out wx1 _ (G_x.out.below HB.out).re).mono ?_
 rintro e wx2 ⟨rfl, hb⟩
 clear x0 x1 x2 x3 x4 x5 x6 x7
 have P_x := Hd (P_x.out.below hb)
 have HB := Hd (Zb HB.out hb)
 clear hb
 obtain ⟨-, x0, x1, x2, x3, x4, x5, x6, x7⟩ := P_x.out.facts
 go_wp2_with fail
 refine (H4.out wx2 _ (HT.out.below2 HB.out) (G_x.out.below HB.out).re).mono ?_
 rintro e wx3 ⟨rfl, hb⟩
 clear x0 x1 x2 x3 x4 x5 x6 x7
 have P_x := Hd (P_x.out.below hb)
 have HB := Hd (Zb HB.out hb)
 clear hb
 obtain ⟨-, x0, x1, x2, x3, x4, x5, x6, x7⟩ := P_x.out.facts
 go_wp2_with fail
 refine (H3.out wx3 _ (G_x.out.below HB.out).im).mono ?_
 rintro e wx4 ⟨rfl, hb⟩
 clear x0 x1 x2 x3 x4 x5 x6 x7
 have P_x := Hd (P_x.out.below hb)
 have HB := Hd (Zb HB.out hb)
 clear hb
 obtain ⟨-, x0, x1, x2, x3, x4, x5, x6, x7⟩ := P_x.out.facts
 go_wp2_with fail
 refine (H3.out wx4 _ (G_x.out.below HB.out).im).mono ?_
 rintro e wx5 ⟨rfl, hb⟩
 clear x0 x1 x2 x3 x4 x5 x6 x7
 have P_x := Hd (P_x.out.below hb)
 have HB := Hd (Zb HB.out hb)
 clear hb
 by_cases hl : u.size <= 65536
 . have hl2 : (t1.size : Int) <= 65536 := by have := HSZ.out; omega
   have HX := Hd (XV hl)
   clear hl
   go_wp2_with fail
   go_ret2
   exact ⟨by rw [HX.out.1, HX.out.2, HU.out]; rfl, HB.out⟩
 . have hl2 : 65536 < (t1.size : Int) := by have := HSZ.out; omega
   have HX := Hd (XU hl)
   clear hl
   go_wp2_with fail
   go_ret2
   exact ⟨by rw [HX.out.1, HX.out.2]; rfl, HB.out⟩

theorem gauss_Text_A0 {n d m f s0 s1 : Int} {t1 u : ByteArray} (C1 : MayG 20 (decide (n < 0)) (decide (d < 0)) (decide (m < 0)) (decide (f < 0)) (Za n.natAbs) (Za d.natAbs) (Za m.natAbs) (Za f.natAbs) true) (C2 : XE 21 n d s0) (C3 : XE 21 m f s1) (z0 : (s0 == 0) = true) (z1 : (s1 == 0) = true) (z2 : s1 <= 0) (C4 : Jh 22 n d t1) (hu : u = t1) (w : World) (v_x : Value) (g_x : Zq w v_x n d m f) (htab : ZM w) :
   Calls Tryz.prog 8 #[v_x] w (fun e w' => e = .returned (.tuple #[.string (txtT true u), .int .i64 (txtK true u)]) /\ Below w.heap.size w w') := by
 obtain ⟨Ax1, cx1, Ax2, cx2, Ax3, cx3, Ax4, cx4, rfl, -⟩ := g_x.form
 have HT := Hd htab
 clear htab
 have HU := Hd hu
 have hsz : (u.size : Int) = (t1.size : Int) := by
   rw [hu]
 have z3 : (s0 != 0) = false := by rw [bne, z0]; rfl
 have z4 : (s1 != 0) = false := by rw [bne, z1]; rfl
 have HSZ := Hd hsz
 clear hu hsz
 have H1 := Hd C1
 have H2 := Hd C2
 have H3 := Hd C3
 have H4 := Hd C4
 clear C1 C2 C3 C4
 have G_x := Hd g_x
 clear g_x
 go_enter Tryz.func8, Tryz.ntmps8
 go_upto_region 1 with fail
 refine Zp (P := fun W => Code.wp _ _ _ _ W) fun W p0 b0 => ?_
 have P_x := Hd (Yl.mk p0)
 have HB := Hd b0
 clear b0 p0
 obtain ⟨-, x0, x1, x2, x3, x4, x5, x6, x7⟩ := P_x.out.facts
 go_wp2_with fail
 refine (H1.out W _ (G_x.out.below HB.out).raw).mono ?_
 rintro e wx1 ⟨rfl, hb⟩
 clear x0 x1 x2 x3 x4 x5 x6 x7
 have P_x := Hd (P_x.out.below hb)
 have HB := Hd (Zb HB.out hb)
 clear hb
 obtain ⟨-, x0, x1, x2, x3, x4, x5, x6, x7⟩ := P_x.out.facts
 go_wp2_with fail
 refine (H2.out wx1 _ (G_x.out.below HB.out).re).mono ?_
 rintro e wx2 ⟨rfl, hb⟩
 clear x0 x1 x2 x3 x4 x5 x6 x7
 have P_x := Hd (P_x.out.below hb)
 have HB := Hd (Zb HB.out hb)
 clear hb
 obtain ⟨-, x0, x1, x2, x3, x4, x5, x6, x7⟩ := P_x.out.facts
 go_wp2_with fail
 refine (H3.out wx2 _ (G_x.out.below HB.out).im).mono ?_
 rintro e wx3 ⟨rfl, hb⟩
 clear x0 x1 x2 x3 x4 x5 x6 x7
 have P_x := Hd (P_x.out.below hb)
 have HB := Hd (Zb HB.out hb)
 clear hb
 obtain ⟨-, x0, x1, x2, x3, x4, x5, x6, x7⟩ := P_x.out.facts
 go_wp2_with fail
 refine (H4.out wx3 _ (HT.out.below2 HB.out) (G_x.out.below HB.out).re).mono ?_
 rintro e wx4 ⟨rfl, hb⟩
 clear x0 x1 x2 x3 x4 x5 x6 x7
 have P_x := Hd (P_x.out.below hb)
 have HB := Hd (Zb HB.out hb)
 clear hb
 obtain ⟨-, x0, x1, x2, x3, x4, x5, x6, x7⟩ := P_x.out.facts
 go_wp2_with fail
 refine (H3.out wx4 _ (G_x.out.below HB.out).im).mono ?_
 rintro e wx5 ⟨rfl, hb⟩
 clear x0 x1 x2 x3 x4 x5 x6 x7
 have P_x := Hd (P_x.out.below hb)
 have HB := Hd (Zb HB.out hb)
 clear hb
 obtain ⟨-, x0, x1, x2, x3, x4, x5, x6, x7⟩ := P_x.out.facts
 go_wp2_with fail
 refine (H3.out wx5 _ (G_x.out.below HB.out).im).mono ?_
 rintro e wx6 ⟨rfl, hb⟩
 clear x0 x1 x2 x3 x4 x5 x6 x7
 have P_x := Hd (P_x.out.below hb)
 have HB := Hd (Zb HB.out hb)
 clear hb
 by_cases hl : u.size <= 65536
 . have hl2 : (t1.size : Int) <= 65536 := by have := HSZ.out; omega
   have HX := Hd (XV hl)
   clear hl
   go_wp2_with fail
   go_ret2
   exact ⟨by rw [HX.out.1, HX.out.2, HU.out]; rfl, HB.out⟩
 . have hl2 : 65536 < (t1.size : Int) := by have := HSZ.out; omega
   have HX := Hd (XU hl)
   clear hl
   go_wp2_with fail
   go_ret2
   exact ⟨by rw [HX.out.1, HX.out.2]; rfl, HB.out⟩

theorem gauss_Text_Bp {n d m f s0 s1 : Int} {t1 t2 u : ByteArray} (C1 : MayG 20 (decide (n < 0)) (decide (d < 0)) (decide (m < 0)) (decide (f < 0)) (Za n.natAbs) (Za d.natAbs) (Za m.natAbs) (Za f.natAbs) true) (C2 : XE 21 n d s0) (C3 : XE 21 m f s1) (z0 : (s0 == 0) = false) (z1 : (s1 == 0) = false) (z2 : 0 < s1) (C4 : Jh 22 n d t1) (C5 : Jh 23 m f t2) (hu : u = t1 ++ ⟨#[43]⟩ ++ t2) (q1 : t1.size <= 1000000) (q2 : t2.size <= 1000000) (q3 : ¬ t1.data.toList = []) (w : World) (v_x : Value) (g_x : Zq w v_x n d m f) (htab : ZM w) :
   Calls Tryz.prog 8 #[v_x] w (fun e w' => e = .returned (.tuple #[.string (txtT true u), .int .i64 (txtK true u)]) /\ Below w.heap.size w w') := by
 obtain ⟨Ax1, cx1, Ax2, cx2, Ax3, cx3, Ax4, cx4, rfl, -⟩ := g_x.form
 have HT := Hd htab
 clear htab
 have HU := Hd hu
 have hsz : (u.size : Int) = (t1.size : Int) + 1 + (t2.size : Int) := by
   rw [hu, ByteArray.size_append, ByteArray.size_append, show (⟨#[43]⟩ : ByteArray).size = 1 from rfl]
   omega
 have w1 : ¬ 9223372036854775807 < t1.size + 1 := by omega
 have w2 : ¬ 9223372036854775807 < t1.size + 1 + t2.size := by omega
 have hne : ¬ t1.toList = [] := by rw [ByteArray.toList_eq]; exact q3
 have hne2 : t1.toList.isEmpty = false := by rw [ByteArray.toList_eq]; exact List.isEmpty_eq_false_iff.2 q3
 have hne3 : (t1.toList == []) = false := by rw [beq_eq_false_iff_ne]; exact hne
 have hne4 : (t1.toList != []) = true := by rw [bne, hne3]; rfl
 have z3 : (s0 != 0) = true := by rw [bne, z0]; rfl
 have z4 : (s1 != 0) = true := by rw [bne, z1]; rfl
 have HSZ := Hd hsz
 clear hu hsz q1 q2 q3
 have H1 := Hd C1
 have H2 := Hd C2
 have H3 := Hd C3
 have H4 := Hd C4
 have H5 := Hd C5
 clear C1 C2 C3 C4 C5
 have G_x := Hd g_x
 clear g_x
 go_enter Tryz.func8, Tryz.ntmps8
 go_upto_region 1 with fail
 refine Zp (P := fun W => Code.wp _ _ _ _ W) fun W p0 b0 => ?_
 have P_x := Hd (Yl.mk p0)
 have HB := Hd b0
 clear b0 p0
 obtain ⟨-, x0, x1, x2, x3, x4, x5, x6, x7⟩ := P_x.out.facts
 go_wp2_with fail
 refine (H1.out W _ (G_x.out.below HB.out).raw).mono ?_
 rintro e wx1 ⟨rfl, hb⟩
 clear x0 x1 x2 x3 x4 x5 x6 x7
 have P_x := Hd (P_x.out.below hb)
 have HB := Hd (Zb HB.out hb)
 clear hb
 obtain ⟨-, x0, x1, x2, x3, x4, x5, x6, x7⟩ := P_x.out.facts
 go_wp2_with fail
 refine (H2.out wx1 _ (G_x.out.below HB.out).re).mono ?_
 rintro e wx2 ⟨rfl, hb⟩
 clear x0 x1 x2 x3 x4 x5 x6 x7
 have P_x := Hd (P_x.out.below hb)
 have HB := Hd (Zb HB.out hb)
 clear hb
 obtain ⟨-, x0, x1, x2, x3, x4, x5, x6, x7⟩ := P_x.out.facts
 go_wp2_with fail
 refine (H4.out wx2 _ (HT.out.below2 HB.out) (G_x.out.below HB.out).re).mono ?_
 rintro e wx3 ⟨rfl, hb⟩
 clear x0 x1 x2 x3 x4 x5 x6 x7
 have P_x := Hd (P_x.out.below hb)
 have HB := Hd (Zb HB.out hb)
 clear hb
 obtain ⟨-, x0, x1, x2, x3, x4, x5, x6, x7⟩ := P_x.out.facts
 go_wp2_with fail
 refine (H3.out wx3 _ (G_x.out.below HB.out).im).mono ?_
 rintro e wx4 ⟨rfl, hb⟩
 clear x0 x1 x2 x3 x4 x5 x6 x7
 have P_x := Hd (P_x.out.below hb)
 have HB := Hd (Zb HB.out hb)
 clear hb
 obtain ⟨-, x0, x1, x2, x3, x4, x5, x6, x7⟩ := P_x.out.facts
 go_wp2_with fail
 refine (H3.out wx4 _ (G_x.out.below HB.out).im).mono ?_
 rintro e wx5 ⟨rfl, hb⟩
 clear x0 x1 x2 x3 x4 x5 x6 x7
 have P_x := Hd (P_x.out.below hb)
 have HB := Hd (Zb HB.out hb)
 clear hb
 obtain ⟨-, x0, x1, x2, x3, x4, x5, x6, x7⟩ := P_x.out.facts
 go_wp2_with fail
 refine (H5.out wx5 _ (HT.out.below2 HB.out) (G_x.out.below HB.out).im).mono ?_
 rintro e wx6 ⟨rfl, hb⟩
 clear x0 x1 x2 x3 x4 x5 x6 x7
 have P_x := Hd (P_x.out.below hb)
 have HB := Hd (Zb HB.out hb)
 clear hb
 by_cases hl : u.size <= 65536
 . have hl2 : (t1.size : Int) + 1 + (t2.size : Int) <= 65536 := by have := HSZ.out; omega
   have HX := Hd (XV hl)
   clear hl
   go_wp2_with fail
   go_ret2
   exact ⟨by rw [HX.out.1, HX.out.2, HU.out]; rfl, HB.out⟩
 . have hl2 : 65536 < (t1.size : Int) + 1 + (t2.size : Int) := by have := HSZ.out; omega
   have HX := Hd (XU hl)
   clear hl
   go_wp2_with fail
   go_ret2
   exact ⟨by rw [HX.out.1, HX.out.2]; rfl, HB.out⟩

theorem gauss_Text_Bm {n d m f s0 s1 : Int} {t1 t2 u : ByteArray} (C1 : MayG 20 (decide (n < 0)) (decide (d < 0)) (decide (m < 0)) (decide (f < 0)) (Za n.natAbs) (Za d.natAbs) (Za m.natAbs) (Za f.natAbs) true) (C2 : XE 21 n d s0) (C3 : XE 21 m f s1) (z0 : (s0 == 0) = false) (z1 : (s1 == 0) = false) (z2 : s1 <= 0) (C4 : Jh 22 n d t1) (C5 : Jh 23 m f t2) (hu : u = t1 ++ t2) (q1 : t1.size <= 1000000) (q2 : t2.size <= 1000000) (q3 : ¬ t1.data.toList = []) (w : World) (v_x : Value) (g_x : Zq w v_x n d m f) (htab : ZM w) :
   Calls Tryz.prog 8 #[v_x] w (fun e w' => e = .returned (.tuple #[.string (txtT true u), .int .i64 (txtK true u)]) /\ Below w.heap.size w w') := by
 obtain ⟨Ax1, cx1, Ax2, cx2, Ax3, cx3, Ax4, cx4, rfl, -⟩ := g_x.form
 have HT := Hd htab
 clear htab
 have HU := Hd hu
 have hsz : (u.size : Int) = (t1.size : Int) + (t2.size : Int) := by
   rw [hu, ByteArray.size_append]
   omega
 have w1 : ¬ 9223372036854775807 < t1.size + t2.size := by omega
 have hne : ¬ t1.toList = [] := by rw [ByteArray.toList_eq]; exact q3
 have hne2 : t1.toList.isEmpty = false := by rw [ByteArray.toList_eq]; exact List.isEmpty_eq_false_iff.2 q3
 have hne3 : (t1.toList == []) = false := by rw [beq_eq_false_iff_ne]; exact hne
 have hne4 : (t1.toList != []) = true := by rw [bne, hne3]; rfl
 have z3 : (s0 != 0) = true := by rw [bne, z0]; rfl
 have z4 : (s1 != 0) = true := by rw [bne, z1]; rfl
 have HSZ := Hd hsz
 clear hu hsz q1 q2 q3
 have H1 := Hd C1
 have H2 := Hd C2
 have H3 := Hd C3
 have H4 := Hd C4
 have H5 := Hd C5
 clear C1 C2 C3 C4 C5
 have G_x := Hd g_x
 clear g_x
 go_enter Tryz.func8, Tryz.ntmps8
 go_upto_region 1 with fail
 refine Zp (P := fun W => Code.wp _ _ _ _ W) fun W p0 b0 => ?_
 have P_x := Hd (Yl.mk p0)
 have HB := Hd b0
 clear b0 p0
 obtain ⟨-, x0, x1, x2, x3, x4, x5, x6, x7⟩ := P_x.out.facts
 go_wp2_with fail
 refine (H1.out W _ (G_x.out.below HB.out).raw).mono ?_
 rintro e wx1 ⟨rfl, hb⟩
 clear x0 x1 x2 x3 x4 x5 x6 x7
 have P_x := Hd (P_x.out.below hb)
 have HB := Hd (Zb HB.out hb)
 clear hb
 obtain ⟨-, x0, x1, x2, x3, x4, x5, x6, x7⟩ := P_x.out.facts
 go_wp2_with fail
 refine (H2.out wx1 _ (G_x.out.below HB.out).re).mono ?_
 rintro e wx2 ⟨rfl, hb⟩
 clear x0 x1 x2 x3 x4 x5 x6 x7
 have P_x := Hd (P_x.out.below hb)
 have HB := Hd (Zb HB.out hb)
 clear hb
 obtain ⟨-, x0, x1, x2, x3, x4, x5, x6, x7⟩ := P_x.out.facts
 go_wp2_with fail
 refine (H4.out wx2 _ (HT.out.below2 HB.out) (G_x.out.below HB.out).re).mono ?_
 rintro e wx3 ⟨rfl, hb⟩
 clear x0 x1 x2 x3 x4 x5 x6 x7
 have P_x := Hd (P_x.out.below hb)
 have HB := Hd (Zb HB.out hb)
 clear hb
 obtain ⟨-, x0, x1, x2, x3, x4, x5, x6, x7⟩ := P_x.out.facts
 go_wp2_with fail
 refine (H3.out wx3 _ (G_x.out.below HB.out).im).mono ?_
 rintro e wx4 ⟨rfl, hb⟩
 clear x0 x1 x2 x3 x4 x5 x6 x7
 have P_x := Hd (P_x.out.below hb)
 have HB := Hd (Zb HB.out hb)
 clear hb
 obtain ⟨-, x0, x1, x2, x3, x4, x5, x6, x7⟩ := P_x.out.facts
 go_wp2_with fail
 refine (H3.out wx4 _ (G_x.out.below HB.out).im).mono ?_
 rintro e wx5 ⟨rfl, hb⟩
 clear x0 x1 x2 x3 x4 x5 x6 x7
 have P_x := Hd (P_x.out.below hb)
 have HB := Hd (Zb HB.out hb)
 clear hb
 obtain ⟨-, x0, x1, x2, x3, x4, x5, x6, x7⟩ := P_x.out.facts
 go_wp2_with fail
 refine (H5.out wx5 _ (HT.out.below2 HB.out) (G_x.out.below HB.out).im).mono ?_
 rintro e wx6 ⟨rfl, hb⟩
 clear x0 x1 x2 x3 x4 x5 x6 x7
 have P_x := Hd (P_x.out.below hb)
 have HB := Hd (Zb HB.out hb)
 clear hb
 by_cases hl : u.size <= 65536
 . have hl2 : (t1.size : Int) + (t2.size : Int) <= 65536 := by have := HSZ.out; omega
   have HX := Hd (XV hl)
   clear hl
   go_wp2_with fail
   go_ret2
   exact ⟨by rw [HX.out.1, HX.out.2, HU.out]; rfl, HB.out⟩
 . have hl2 : 65536 < (t1.size : Int) + (t2.size : Int) := by have := HSZ.out; omega
   have HX := Hd (XU hl)
   clear hl
   go_wp2_with fail
   go_ret2
   exact ⟨by rw [HX.out.1, HX.out.2]; rfl, HB.out⟩

theorem gauss_Text_Cp {n d m f s0 s1 : Int} {t2 u : ByteArray} (C1 : MayG 20 (decide (n < 0)) (decide (d < 0)) (decide (m < 0)) (decide (f < 0)) (Za n.natAbs) (Za d.natAbs) (Za m.natAbs) (Za f.natAbs) true) (C2 : XE 21 n d s0) (C3 : XE 21 m f s1) (z0 : (s0 == 0) = true) (z1 : (s1 == 0) = false) (z2 : 0 < s1) (C5 : Jh 23 m f t2) (hu : u = ⟨#[]⟩ ++ t2) (q2 : t2.size <= 1000000) (w : World) (v_x : Value) (g_x : Zq w v_x n d m f) (htab : ZM w) :
   Calls Tryz.prog 8 #[v_x] w (fun e w' => e = .returned (.tuple #[.string (txtT true u), .int .i64 (txtK true u)]) /\ Below w.heap.size w w') := by
 obtain ⟨Ax1, cx1, Ax2, cx2, Ax3, cx3, Ax4, cx4, rfl, -⟩ := g_x.form
 have HT := Hd htab
 clear htab
 have HU := Hd hu
 have hsz : (u.size : Int) = (t2.size : Int) := by
   rw [hu, ByteArray.size_append, show (⟨#[]⟩ : ByteArray).size = 0 from rfl]
   omega
 have w1 : ¬ 9223372036854775807 < t2.size := by omega
 have z3 : (s0 != 0) = false := by rw [bne, z0]; rfl
 have z4 : (s1 != 0) = true := by rw [bne, z1]; rfl
 have HSZ := Hd hsz
 clear hu hsz q2
 have H1 := Hd C1
 have H2 := Hd C2
 have H3 := Hd C3
 have H5 := Hd C5
 clear C1 C2 C3 C5
 have G_x := Hd g_x
 clear g_x
 go_enter Tryz.func8, Tryz.ntmps8
 go_upto_region 1 with fail
 refine Zp (P := fun W => Code.wp _ _ _ _ W) fun W p0 b0 => ?_
 have P_x := Hd (Yl.mk p0)
 have HB := Hd b0
 clear b0 p0
 obtain ⟨-, x0, x1, x2, x3, x4, x5, x6, x7⟩ := P_x.out.facts
 go_wp2_with fail
 refine (H1.out W _ (G_x.out.below HB.out).raw).mono ?_
 rintro e wx1 ⟨rfl, hb⟩
 clear x0 x1 x2 x3 x4 x5 x6 x7
 have P_x := Hd (P_x.out.below hb)
 have HB := Hd (Zb HB.out hb)
 clear hb
 obtain ⟨-, x0, x1, x2, x3, x4, x5, x6, x7⟩ := P_x.out.facts
 go_wp2_with fail
 refine (H2.out wx1 _ (G_x.out.below HB.out).re).mono ?_
 rintro e wx2 ⟨rfl, hb⟩
 clear x0 x1 x2 x3 x4 x5 x6 x7
 have P_x := Hd (P_x.out.below hb)
 have HB := Hd (Zb HB.out hb)
 clear hb
 obtain ⟨-, x0, x1, x2, x3, x4, x5, x6, x7⟩ := P_x.out.facts
 go_wp2_with fail
 refine (H3.out wx2 _ (G_x.out.below HB.out).im).mono ?_
 rintro e wx3 ⟨rfl, hb⟩
 clear x0 x1 x2 x3 x4 x5 x6 x7
 have P_x := Hd (P_x.out.below hb)
 have HB := Hd (Zb HB.out hb)
 clear hb
 obtain ⟨-, x0, x1, x2, x3, x4, x5, x6, x7⟩ := P_x.out.facts
 go_wp2_with fail
 refine (H3.out wx3 _ (G_x.out.below HB.out).im).mono ?_
 rintro e wx4 ⟨rfl, hb⟩
 clear x0 x1 x2 x3 x4 x5 x6 x7
 have P_x := Hd (P_x.out.below hb)
 have HB := Hd (Zb HB.out hb)
 clear hb
 obtain ⟨-, x0, x1, x2, x3, x4, x5, x6, x7⟩ := P_x.out.facts
 go_wp2_with fail
 refine (H3.out wx4 _ (G_x.out.below HB.out).im).mono ?_
 rintro e wx5 ⟨rfl, hb⟩
 clear x0 x1 x2 x3 x4 x5 x6 x7
 have P_x := Hd (P_x.out.below hb)
 have HB := Hd (Zb HB.out hb)
 clear hb
 obtain ⟨-, x0, x1, x2, x3, x4, x5, x6, x7⟩ := P_x.out.facts
 go_wp2_with fail
 refine (H5.out wx5 _ (HT.out.below2 HB.out) (G_x.out.below HB.out).im).mono ?_
 rintro e wx6 ⟨rfl, hb⟩
 clear x0 x1 x2 x3 x4 x5 x6 x7
 have P_x := Hd (P_x.out.below hb)
 have HB := Hd (Zb HB.out hb)
 clear hb
 by_cases hl : u.size <= 65536
 . have hl2 : (t2.size : Int) <= 65536 := by have := HSZ.out; omega
   have HX := Hd (XV hl)
   clear hl
   go_wp2_with fail
   go_ret2
   exact ⟨by rw [HX.out.1, HX.out.2, HU.out]; rfl, HB.out⟩
 . have hl2 : 65536 < (t2.size : Int) := by have := HSZ.out; omega
   have HX := Hd (XU hl)
   clear hl
   go_wp2_with fail
   go_ret2
   exact ⟨by rw [HX.out.1, HX.out.2]; rfl, HB.out⟩

theorem gauss_Text_Cm {n d m f s0 s1 : Int} {t2 u : ByteArray} (C1 : MayG 20 (decide (n < 0)) (decide (d < 0)) (decide (m < 0)) (decide (f < 0)) (Za n.natAbs) (Za d.natAbs) (Za m.natAbs) (Za f.natAbs) true) (C2 : XE 21 n d s0) (C3 : XE 21 m f s1) (z0 : (s0 == 0) = true) (z1 : (s1 == 0) = false) (z2 : s1 <= 0) (C5 : Jh 23 m f t2) (hu : u = ⟨#[]⟩ ++ t2) (q2 : t2.size <= 1000000) (w : World) (v_x : Value) (g_x : Zq w v_x n d m f) (htab : ZM w) :
   Calls Tryz.prog 8 #[v_x] w (fun e w' => e = .returned (.tuple #[.string (txtT true u), .int .i64 (txtK true u)]) /\ Below w.heap.size w w') := by
 obtain ⟨Ax1, cx1, Ax2, cx2, Ax3, cx3, Ax4, cx4, rfl, -⟩ := g_x.form
 have HT := Hd htab
 clear htab
 have HU := Hd hu
 have hsz : (u.size : Int) = (t2.size : Int) := by
   rw [hu, ByteArray.size_append, show (⟨#[]⟩ : ByteArray).size = 0 from rfl]
   omega
 have w1 : ¬ 9223372036854775807 < t2.size := by omega
 have z3 : (s0 != 0) = false := by rw [bne, z0]; rfl
 have z4 : (s1 != 0) = true := by rw [bne, z1]; rfl
 have HSZ := Hd hsz
 clear hu hsz q2
 have H1 := Hd C1
 have H2 := Hd C2
 have H3 := Hd C3
 have H5 := Hd C5
 clear C1 C2 C3 C5
 have G_x := Hd g_x
 clear g_x
 go_enter Tryz.func8, Tryz.ntmps8
 go_upto_region 1 with fail
 refine Zp (P := fun W => Code.wp _ _ _ _ W) fun W p0 b0 => ?_
 have P_x := Hd (Yl.mk p0)
 have HB := Hd b0
 clear b0 p0
 obtain ⟨-, x0, x1, x2, x3, x4, x5, x6, x7⟩ := P_x.out.facts
 go_wp2_with fail
 refine (H1.out W _ (G_x.out.below HB.out).raw).mono ?_
 rintro e wx1 ⟨rfl, hb⟩
 clear x0 x1 x2 x3 x4 x5 x6 x7
 have P_x := Hd (P_x.out.below hb)
 have HB := Hd (Zb HB.out hb)
 clear hb
 obtain ⟨-, x0, x1, x2, x3, x4, x5, x6, x7⟩ := P_x.out.facts
 go_wp2_with fail
 refine (H2.out wx1 _ (G_x.out.below HB.out).re).mono ?_
 rintro e wx2 ⟨rfl, hb⟩
 clear x0 x1 x2 x3 x4 x5 x6 x7
 have P_x := Hd (P_x.out.below hb)
 have HB := Hd (Zb HB.out hb)
 clear hb
 obtain ⟨-, x0, x1, x2, x3, x4, x5, x6, x7⟩ := P_x.out.facts
 go_wp2_with fail
 refine (H3.out wx2 _ (G_x.out.below HB.out).im).mono ?_
 rintro e wx3 ⟨rfl, hb⟩
 clear x0 x1 x2 x3 x4 x5 x6 x7
 have P_x := Hd (P_x.out.below hb)
 have HB := Hd (Zb HB.out hb)
 clear hb
 obtain ⟨-, x0, x1, x2, x3, x4, x5, x6, x7⟩ := P_x.out.facts
 go_wp2_with fail
 refine (H3.out wx3 _ (G_x.out.below HB.out).im).mono ?_
 rintro e wx4 ⟨rfl, hb⟩
 clear x0 x1 x2 x3 x4 x5 x6 x7
 have P_x := Hd (P_x.out.below hb)
 have HB := Hd (Zb HB.out hb)
 clear hb
 obtain ⟨-, x0, x1, x2, x3, x4, x5, x6, x7⟩ := P_x.out.facts
 go_wp2_with fail
 refine (H3.out wx4 _ (G_x.out.below HB.out).im).mono ?_
 rintro e wx5 ⟨rfl, hb⟩
 clear x0 x1 x2 x3 x4 x5 x6 x7
 have P_x := Hd (P_x.out.below hb)
 have HB := Hd (Zb HB.out hb)
 clear hb
 obtain ⟨-, x0, x1, x2, x3, x4, x5, x6, x7⟩ := P_x.out.facts
 go_wp2_with fail
 refine (H5.out wx5 _ (HT.out.below2 HB.out) (G_x.out.below HB.out).im).mono ?_
 rintro e wx6 ⟨rfl, hb⟩
 clear x0 x1 x2 x3 x4 x5 x6 x7
 have P_x := Hd (P_x.out.below hb)
 have HB := Hd (Zb HB.out hb)
 clear hb
 by_cases hl : u.size <= 65536
 . have hl2 : (t2.size : Int) <= 65536 := by have := HSZ.out; omega
   have HX := Hd (XV hl)
   clear hl
   go_wp2_with fail
   go_ret2
   exact ⟨by rw [HX.out.1, HX.out.2, HU.out]; rfl, HB.out⟩
 . have hl2 : 65536 < (t2.size : Int) := by have := HSZ.out; omega
   have HX := Hd (XU hl)
   clear hl
   go_wp2_with fail
   go_ret2
   exact ⟨by rw [HX.out.1, HX.out.2]; rfl, HB.out⟩
end Go.Proofs.YtdonecnhdkjniaaGreatDoor
