/- Several texts in one: TrimDigits, RefRead, ExRead, ERead, FrontAt. -/
import Derived.Test.YtdonecnhdkjniaaGreatDoorGx29
import Derived.Shelf.Strings.SlTrimAscii
import Derived.Deep.Cut
import Derived.Lib.AtoiErrMem
set_option maxRecDepth 100000
set_option maxHeartbeats 8000000
namespace Go.Proofs.YtdonecnhdkjniaaGreatDoor
open Go.RowKit

def Jo (b : UInt8) : Bool := decide (48 <= b.toNat /\ b.toNat <= 57)
def NonD (l : List UInt8) : Prop := ∃ b ∈ l, Jo b = false
theorem NonD.cons {l : List UInt8} {b : UInt8} (h : Jo b = true) : NonD (b :: l) ↔ NonD l := by
 unfold NonD
 constructor
 . rintro ⟨x, hx, hx2⟩
   rw [List.mem_cons] at hx
   rcases hx with rfl | hx
   . rw [h] at hx2; cases hx2
   . exact ⟨x, hx, hx2⟩
 . rintro ⟨x, hx, hx2⟩
   exact ⟨x, List.mem_cons_of_mem _ hx, hx2⟩
theorem Xc : ∀ (l : List UInt8) (acc : Nat), Lib.decFrom acc l = none ↔ NonD l
 | [], acc => by simp [Lib.decFrom, NonD]
 | b :: l, acc => by
  cases h : Jo b with
  | true =>
   have h2 : 48 <= b.toNat /\ b.toNat <= 57 := by unfold Jo at h; simpa using h
   rw [NonD.cons h, Lib.decFrom, Ka h2.1 h2.2]
   exact Xc l _
  | false =>
   have h2 : ¬ (48 <= b.toNat /\ b.toNat <= 57) := by unfold Jo at h; simpa using h
   rw [Lib.decFrom, Xl (by omega)]
   exact ⟨fun _ => ⟨b, List.mem_cons_self, h⟩, fun _ => rfl⟩
theorem digs_contains (x : UInt8) : ([48, 49, 50, 51, 52, 53, 54, 55, 56, 57] : List UInt8).contains x = Jo x := by
 rw [Bool.eq_iff_iff]
 unfold Jo
 simp [<- UInt8.toNat_inj]
 omega
theorem Jl {p : UInt8 -> Bool} : ∀ (l : List UInt8), l.dropWhile p = [] ↔ ∀ b ∈ l, p b = true
 | [] => by simp
 | b :: l => by
  rw [List.dropWhile_cons]
  cases h : p b with
  | true => simp [h, Jl l]
  | false => simp [h]
theorem nonD_not {l : List UInt8} : ¬ NonD l ↔ ∀ b ∈ l, Jo b = true := by
 unfold NonD
 constructor
 . intro h b hb
   cases hd : Jo b with
   | true => rfl
   | false => exact absurd ⟨b, hb, hd⟩ h
 . rintro h ⟨b, hb, hd⟩
   rw [h b hb] at hd; cases hd
theorem trimS_digits (l : List UInt8) : Lib.trimS l [48, 49, 50, 51, 52, 53, 54, 55, 56, 57] = [] ↔ ¬ NonD l := by
 have e : (fun x => ([48, 49, 50, 51, 52, 53, 54, 55, 56, 57] : List UInt8).contains x) = Jo := funext digs_contains
 unfold Lib.trimS Lib.trimLeftS Lib.trimRightS
 rw [e, Jl, nonD_not]
 constructor
 . intro h
   have h1 : (l.reverse.dropWhile Jo) = [] := by
    cases h2 : l.reverse.dropWhile Jo with
    | nil => rfl
    | cons x r =>
     exfalso
     have h3 := List.head?_dropWhile_not Jo l.reverse
     rw [h2] at h3
     simp at h3
     have := h x (by rw [h2]; simp)
     rw [h3] at this; cases this
   intro b hb
   exact (Jl _).1 h1 b (by simpa using hb)
 . intro h b hb
   have h1 : l.reverse.dropWhile Jo = [] := (Jl _).2 (fun b hb => h b (by simpa using hb))
   rw [h1] at hb
   cases hb
def Trimmed (s : ByteArray) (w : World) (e : Ending) (w' : World) : Prop := ∃ t : ByteArray, e = .returned (.string t) /\ (t.data.toList = [] ↔ ¬ NonD s.data.toList) /\ Below w.heap.size w w'
theorem Jy (s : ByteArray) (hs : s.size <= 65536) (w : World) :
  Calls Tryz.prog 178 #[.string s, .string ⟨#[48, 49, 50, 51, 52, 53, 54, 55, 56, 57]⟩] w (Trimmed s w) :=
 (Any.strings_Trim_ascii Tryz.lays160 (fun _ => by kernel_rfl) (by kernel_rfl) s ⟨#[48, 49, 50, 51, 52, 53, 54, 55, 56, 57]⟩ w (by omega) (by decide) (by
  intro j b hb
  have hm : b ∈ ([48, 49, 50, 51, 52, 53, 54, 55, 56, 57] : List UInt8) := List.mem_of_getElem? hb
  have h2 := digs_contains b
  rw [List.contains_iff_mem.2 hm] at h2
  have h3 : 48 <= b.toNat /\ b.toNat <= 57 := by unfold Jo at h2; simpa using h2.symm
  omega)).mono fun _ _ ⟨h1, h2⟩ => ⟨_, h1, trimS_digits _, h2⟩

theorem XF.toN {w : World} {base n L : Nat} {v : Value} (h : XF w base v n L) : ∃ A c zs, v = .slice A zs.length c /\ Zj zs /\ val zs = n /\ zs.length <= L /\ zs.length <= c /\ c <= 9223372036854775807 /\ Jg w w.heap.size A zs /\ Yx w base (.slice A (Za n).length c) n := by
 obtain ⟨A, c, zs, h1, h2, h3, h4, h5, h6, h7⟩ := h.form
 have hl : (Za n).length <= zs.length := by
   have := Y3 h2
   have h8 := congrArg List.length this
   rw [h3, List.length_take] at h8
   omega
 refine ⟨A, c, zs, h1, h2, h3, h4, h5, h6, ZD.of_own h7, A, c, rfl, by omega, h6, ?_⟩
 have ht := Y3 h2
 rw [h3] at ht
 by_cases h0 : zs.length = 0
 . have hz := List.eq_nil_of_length_eq_zero h0
   subst hz
   have e0 : (Za n).length = 0 := by simpa using hl
   have e1 := List.eq_nil_of_length_eq_zero e0
   rw [e1]
   exact h7
 . obtain ⟨g, rfl, -, -, -⟩ := Kj h7 h0
   have := row_cut h7 hl
   rw [<- XR, <- ht] at this
   exact this
structure Split (s D : ByteArray) (neg : Bool) : Prop where
 neg : XQ s.data.toList = neg
 tail : YL s.data.toList = D.data.toList
def RetRead (base : Nat) (w : World) (o : Option Int) (e : Ending) (w' : World) : Prop := ∃ v, e = .returned (.tuple #[v, .bool o.isSome]) /\ Zc w' base v (o.getD 0) /\ Below w.heap.size w w'

theorem ref_Read (s : ByteArray) (hs : s.size <= 65536) (w : World) :
  Calls Tryz.prog 187 #[.string s] w (RetRead w.heap.size w (Yy s.data.toList)) := by
 have pr := Zr.new w 24 (.bool false) (.slice none 0 0)
 have b0 := (Below.refl w.heap.size w).alloc (Nat.le_refl _) (.cells #[.bool false, .slice none 0 0] 24)
 have hp : Hid (∀ h : 0 < s.size, XQ s.data.toList = decide (s[0].toNat = 45)) := by
  refine Hd (fun h => ?_)
  have := byte_at s 0 h
  unfold XQ
  rw [List.head?_eq_getElem?, this]
  rw [Bool.eq_iff_iff]
  simp [<- UInt8.toNat_inj]
 obtain ⟨neg, hneg⟩ : ∃ b, b = XQ s.data.toList := ⟨_, rfl⟩
 obtain ⟨zz, hzz⟩ : ∃ z, z = Yy s.data.toList := ⟨_, rfl⟩
 have HZZ := Hd hzz
 rw [<- hzz]
 have HNEG := Hd hneg
 have PR := Hd pr
 have HB := Hd b0
 clear hzz hneg pr b0
 go_enter Tryz.func187, Tryz.ntmps187
 go_upto_region 1 with fail
 obtain ⟨W, E⟩ : ∃ W, W = w.alloc (.cells #[.bool false, .slice none 0 0] 24) := ⟨_, rfl⟩
 rw [<- E] at PR HB ⊢
 clear E
 go_cut [4] (fun s4 wc => s4 = .bool neg /\ wc = W)
 case first =>
  by_cases h0 : s.size = 0
  . have hn : neg = false := by
      rw [HNEG.out]
      have : s.data.toList = [] := List.eq_nil_of_length_eq_zero (by rw [<- Lib.size_eq]; exact h0)
      rw [this]; rfl
    have HN := Hd hn
    go_wp2_with fail
    go_meet
    case rel => exact ⟨by rw [HN.out], rfl⟩
  . have h1 : 0 < s.size := by omega
    have hn : neg = decide (s[0].toNat = 45) := by rw [HNEG.out, hp.out h1]
    by_cases h45 : s[0].toNat = 45
    . have HN := Hd (show neg = true by rw [hn]; simpa using h45)
      have a0 : (0 : Int) < (s.size : Int) := by omega
      clear hn
      go_wp2_with fail
      go_meet
      case rel => exact ⟨by rw [HN.out], rfl⟩
    . have HN := Hd (show neg = false by rw [hn]; simpa using h45)
      have a0 : (0 : Int) < (s.size : Int) := by omega
      have a1 : ((s[0].toNat : Int) == 45) = false := by simp; omega
      clear hn
      go_wp2_with fail
      go_meet
      case rel => exact ⟨by rw [HN.out], rfl⟩
 case rest =>
  obtain ⟨h4, hw⟩ := hcut
  subst h4 hw
  obtain ⟨W, hW⟩ : ∃ Y, Y = wc := ⟨_, rfl⟩
  subst hW
  go_upto_if 21 with fail
  go_cut [4, 5, 21] (fun s4 s5 s21 wc => s4 = .bool neg /\ s21 = .bool neg /\ ∃ D : ByteArray, s5 = .string D /\ Hid (Split s D neg) /\ D.size <= 65536 /\ wc = W)
  case first =>
    rcases Bool.eq_false_or_eq_true neg with hn | hn
    . subst hn
      have h1 : 1 <= s.size := by
        rcases Nat.eq_zero_or_pos s.size with h0 | h0
        . have : s.data.toList = [] := List.eq_nil_of_length_eq_zero (by rw [<- Lib.size_eq]; exact h0)
          have h2 := HNEG.out
          rw [this] at h2
          cases h2
        . exact h0
      have a0 : (1 : Int) <= (s.size : Int) := by omega
      have e1 : (s.extract 1 s.size).data.toList = s.data.toList.tail := by
        rw [Lib.extract_data, <- List.drop_one]
        exact List.take_of_length_le (by rw [List.length_drop, <- Lib.size_eq]; exact Nat.le_refl _)
      have HS := Hd (show Split s (s.extract 1 s.size) true /\ (s.extract 1 s.size).size <= 65536 from ⟨⟨HNEG.out.symm, by unfold YL; rw [<- HNEG.out, e1]; rfl⟩, by rw [Lib.size_eq, e1, List.length_tail, <- Lib.size_eq]; omega⟩)
      clear e1 hp HNEG
      go_wp2_with fail
      go_meet
      case rel => exact ⟨rfl, rfl, _, rfl, Hd HS.out.1, HS.out.2, rfl⟩
    . subst hn
      have HS := Hd (show Split s s false from ⟨HNEG.out.symm, by unfold YL; rw [<- HNEG.out]; rfl⟩)
      clear hp HNEG
      go_wp2_with fail
      go_meet
      case rel => exact ⟨rfl, rfl, _, rfl, HS, hs, rfl⟩
  case rest =>
    obtain ⟨h4, h21, D, h5, HSP, hDs, hw⟩ := hcut
    subst h4 h21 h5 hw
    obtain ⟨W, hW⟩ : ∃ Y, Y = wc := ⟨_, rfl⟩
    subst hW
    have HZ2 := Hd (show zz = (X8 D.data.toList neg).map fun n => if neg then -(n : Int) else n from by rw [HZZ.out]; unfold Yy; rw [HSP.out.neg, HSP.out.tail])
    obtain ⟨r, hr⟩ : ∃ r, r = badD D.data.toList neg := ⟨_, rfl⟩
    have HR := Hd hr
    clear hp HNEG HZZ HSP hr hs
    go_upto_region 5 with fail
    go_cut [39] (fun s39 wc => s39 = .bool r /\ wc = W)
    case first =>
      by_cases h0 : D.size = 0
      . have HN := Hd (show r = true by
          rw [HR.out]
          have : D.data.toList = [] := List.eq_nil_of_length_eq_zero (by rw [<- Lib.size_eq]; exact h0)
          rw [this]; rfl)
        go_wp2_with fail
        go_meet
        case rel => exact ⟨by rw [HN.out], rfl⟩
      . have h1 : 0 < D.size := by omega
        have hb := byte_at D 0 h1
        have hr : r = ((D[0] == 48) && (decide (1 < D.size) || neg)) := by
          rw [HR.out]
          unfold badD
          have hne : D.data.toList.isEmpty = false := by
            cases hD : D.data.toList with
            | nil => rw [hD] at hb; simp at hb
            | cons _ _ => rfl
          rw [hne, List.head?_eq_getElem?, hb, <- Lib.size_eq, Bool.false_or]
          rfl
        have a0 : (0 : Int) < (D.size : Int) := by omega
        have a2 : ((D.size : Int) == 0) = false := beq_eq_false_iff_ne.2 (by omega)
        clear hb
        by_cases h48 : D[0] = 48
        . rw [h48] at hr
          have a1 : D[0].toNat = 48 := by rw [h48]; rfl
          clear h48
          by_cases h2 : 1 < D.size
          . have HN := Hd (show r = true by rw [hr]; simp [h2])
            have a3 : (1 : Int) < (D.size : Int) := by omega
            clear hr
            go_wp2_with fail
            go_meet
            case rel => exact ⟨by rw [HN.out], rfl⟩
          . have HN := Hd (show r = neg by rw [hr]; simp [h2])
            have a3 : ¬ (1 : Int) < (D.size : Int) := by omega
            clear hr
            go_wp2_with fail
            go_meet
            case rel => exact ⟨by rw [HN.out], rfl⟩
        . have HN := Hd (show r = false by rw [hr]; simp [h48])
          have a1 : ((D[0].toNat : Int) == 48) = false := by
            have : D[0].toNat ≠ 48 := fun e => h48 (UInt8.toNat_inj.1 e)
            simp; omega
          clear hr h48
          go_wp2_with fail
          go_meet
          case rel => exact ⟨by rw [HN.out], rfl⟩
    case rest =>
      obtain ⟨h5, hw⟩ := hcut
      subst h5 hw
      obtain ⟨W, hW⟩ : ∃ Y, Y = wc := ⟨_, rfl⟩
      subst hW
      cases r with
      | true =>
        have HZN := Hd (show zz = none by rw [HZ2.out]; unfold X8; rw [<- HR.out]; rfl)
        clear HZ2 HR
        have HFB := Hd (ZW HB.out (Nat.le_refl _) (.bool false) (.slice none 0 0))
        have HQ := Hd (PR.out.store (.bool false) (.slice none 0 0))
        obtain ⟨l_r, r0, r1, f0, f1⟩ := PR.out.facts
        go_wp2_with fail
        obtain ⟨_, k0, k1, _, _⟩ := HQ.out.facts
        exact bodyPost_ret (v := .tuple #[.agg #[.bool false, .slice none 0 0], .bool false]) (by simp [results, Tryz.results187, go_sem, k0, k1]) rfl ⟨_, by rw [HZN.out]; rfl, by rw [HZN.out]; exact Zc.nought _ _, HFB.out⟩
      | false =>
        have HZ3 := Hd (show zz = (Lib.decFrom 0 D.data.toList).map fun n => if neg then -(n : Int) else n by rw [HZ2.out]; unfold X8; rw [<- HR.out]; rfl)
        clear HZ2 HR
        go_wp2_with fail
        go_loop [6] (fun s6 => ∃ i : Nat, s6 = .int .i64 i /\ i <= D.size /\ Hid (∃ v, Lib.decFrom 0 (D.data.toList.take i) = some v)) (fun s6 => D.size - (intOf s6).toNat)
        case atStart => exact ⟨0, rfl, Nat.zero_le _, Hd ⟨0, rfl⟩⟩
        case round =>
          obtain ⟨i, rfl, hi, HV⟩ := hrel
          by_cases hlt : i < D.size
          . have a0 : (0 : Int) <= (i : Int) := by omega
            have a1 : (i : Int) < (D.size : Int) := by omega
            have hb := byte_at D i hlt
            obtain ⟨c, hc⟩ : ∃ c, D[i] = c := ⟨_, rfl⟩
            rw [hc] at hb
            have HBY := Hd hb
            have HLT := Hd hlt
            clear hb
            by_cases h1 : c.toNat < 48
            . have a2 : (c.toNat : Int) < 48 := by omega
              have HZN := Hd (show zz = none by rw [HZ3.out, X5 HBY.out (Xl (.inl h1))]; rfl)
              clear h1
              have HFB := Hd (ZW HB.out (Nat.le_refl _) (.bool false) (.slice none 0 0))
              have HQ := Hd (PR.out.store (.bool false) (.slice none 0 0))
              obtain ⟨l_r, r0, r1, f0, f1⟩ := PR.out.facts
              go_wp2_with fail
              obtain ⟨_, k0, k1, _, _⟩ := HQ.out.facts
              exact bodyPost_ret (v := .tuple #[.agg #[.bool false, .slice none 0 0], .bool false]) (by simp [results, Tryz.results187, go_sem, k0, k1]) rfl ⟨_, by rw [HZN.out]; rfl, by rw [HZN.out]; exact Zc.nought _ _, HFB.out⟩
            . by_cases h2 : 57 < c.toNat
              . have a2 : (48 : Int) <= (c.toNat : Int) := by omega
                have a3 : (57 : Int) < (c.toNat : Int) := by omega
                have HZN := Hd (show zz = none by rw [HZ3.out, X5 HBY.out (Xl (.inr h2))]; rfl)
                clear h1 h2
                have HFB := Hd (ZW HB.out (Nat.le_refl _) (.bool false) (.slice none 0 0))
                have HQ := Hd (PR.out.store (.bool false) (.slice none 0 0))
                obtain ⟨l_r, r0, r1, f0, f1⟩ := PR.out.facts
                go_wp2_with fail
                obtain ⟨_, k0, k1, _, _⟩ := HQ.out.facts
                exact bodyPost_ret (v := .tuple #[.agg #[.bool false, .slice none 0 0], .bool false]) (by simp [results, Tryz.results187, go_sem, k0, k1]) rfl ⟨_, by rw [HZN.out]; rfl, by rw [HZN.out]; exact Zc.nought _ _, HFB.out⟩
              . have a2 : (48 : Int) <= (c.toNat : Int) := by omega
                have a3 : (c.toNat : Int) <= 57 := by omega
                have HN := Hd (show ∃ v, Lib.decFrom 0 (D.data.toList.take (i + 1)) = some v by
                 obtain ⟨v, hv⟩ := HV.out
                 exact ⟨_, Lib.decFrom_take _ _ _ _ _ _ hv HBY.out (Ka (by omega) (by omega))⟩)
                clear h1 h2
                go_wp2_with fail
                go_round
                case rel => exact ⟨i + 1, by go_num, HLT.out, HN⟩
                case measure => simp [intOf]; have := HLT.out; omega
          . obtain rfl : i = D.size := by omega
            have HD := Hd (show ∃ v, Lib.decFrom 0 D.data.toList = some v by
              obtain ⟨v, hv⟩ := HV.out
              rw [Lib.size_eq, List.take_length] at hv
              exact ⟨v, hv⟩)
            have HDIG := Hd (show ∀ (j : Nat) (c : UInt8), D.data.toList[j]? = some c -> 48 <= c.toNat /\ c.toNat <= 57 by
              intro j c hjc
              obtain ⟨v, hv⟩ := HD.out
              refine Decidable.byContradiction fun hn => ?_
              rw [X5 hjc (Xl (by omega))] at hv
              cases hv)
            clear HV
            go_wp2_with fail
            go_loopw [7, 8] (fun s7 s8 wl => ∃ (i v : Nat) (AL : Option Addr) (cL : Nat), s8 = .int .i64 i /\ i <= D.size /\ s7 = .slice AL (Za v).length cL /\ Hid (Lib.decFrom 0 (D.data.toList.take i) = some v /\ Yx wl (w.heap.size + 1) (.slice AL (Za v).length cL) v /\ Below W.heap.size W wl)) (fun _ s8 _ => D.size - (intOf s8).toNat)
            case atStart => exact ⟨0, 0, none, 0, rfl, Nat.zero_le _, rfl, Hd ⟨rfl, ⟨none, 0, rfl, Nat.le_refl _, by omega, World.ownsRow_nil _ _ _ _⟩, Below.refl _ _⟩⟩
            case round =>
              obtain ⟨i, v, AL, cL, rfl, hi2, rfl, HL⟩ := hrel
              have hvl : (Za v).length <= i := ZN.2 (by
                have h1 := Lib.decFrom_lt _ _ _ HL.out.1
                have h2 : (D.data.toList.take i).length <= i := List.length_take_le _ _
                have h3 : 10 ^ (D.data.toList.take i).length <= 10 ^ i := Nat.pow_le_pow_right (by omega) h2
                have h4 : 10 ^ i <= 4294967296 ^ i := Nat.pow_le_pow_left (by omega) i
                omega)
              by_cases hlt : i < D.size
              . have a0 : (0 : Int) <= (i : Int) := by omega
                have a1 : (i : Int) < (D.size : Int) := by omega
                have HLT := Hd hlt
                clear hlt
                go_wp2_with fail
                go_loop [8, 9, 10, 11] (fun s8 s9 s10 s11 => ∃ j p f k : Nat, s8 = .int .i64 j /\ s9 = .int .u32 p /\ s10 = .int .u32 f /\ s11 = .int .i64 k /\ j <= D.size /\ k <= 9 /\ p < f /\ f <= 1000000000 /\ Hid (j = i + k /\ f = 10 ^ k /\ Lib.decFrom 0 ((D.data.toList.drop i).take k) = some p)) (fun _ _ _ s11 => 9 - (intOf s11).toNat)
                case atStart => exact ⟨i, 0, 1, 0, rfl, rfl, rfl, rfl, hi2, by omega, by omega, by omega, Hd ⟨rfl, rfl, rfl⟩⟩
                case round =>
                 obtain ⟨j, p, f, k, rfl, rfl, rfl, rfl, hj, hk, hpf, hf9, HI⟩ := hrel
                 by_cases hgo : k < 9 /\ j < D.size
                 . obtain ⟨hlk, hlj⟩ := hgo
                   have b0 : (0 : Int) <= (j : Int) := by omega
                   have b1 : (j : Int) < (D.size : Int) := by omega
                   have hb := byte_at D j hlj
                   obtain ⟨c, hc⟩ : ∃ c, D[j] = c := ⟨_, rfl⟩
                   rw [hc] at hb
                   obtain ⟨d1, d2⟩ := HDIG.out j c hb
                   have hf8 : f <= 100000000 := by
                    rw [HI.out.2.1]
                    exact Nat.le_trans (Nat.pow_le_pow_right (by omega) (show k <= 8 by omega)) (by decide)
                   have HN := Hd (show j + 1 = i + (k + 1) /\ 10 * f = 10 ^ (k + 1) /\ Lib.decFrom 0 ((D.data.toList.drop i).take (k + 1)) = some (p * 10 + (c.toNat - 48)) from ⟨by have := HI.out.1; omega, by rw [HI.out.2.1, Nat.pow_succ]; omega, Lib.decFrom_take _ _ _ _ _ _ HI.out.2.2 (by rw [List.getElem?_drop, <- HI.out.1]; exact hb) (Ka d1 d2)⟩)
                   have a2 : (48 : Int) <= (c.toNat : Int) := by omega
                   have a3 : (c.toNat : Int) <= 57 := by omega
                   have HC := Hd (show j + 1 <= D.size /\ k + 1 <= 9 /\ p * 10 + (c.toNat - 48) < 10 * f /\ 10 * f <= 1000000000 /\ 48 <= c.toNat by omega)
                   clear hb d1 d2 HI
                   go_wp2_with fail
                   go_round
                   case rel => exact ⟨j + 1, p * 10 + (c.toNat - 48), 10 * f, k + 1, by go_num, by congr 1; have := HC.out.2.2.2.2; omega, by go_num, by go_num, HC.out.1, HC.out.2.1, HC.out.2.2.1, HC.out.2.2.2.1, HN⟩
                   case measure => simp [intOf]; omega
                 . have hk1 : 1 <= k := by
                    have h1 := HI.out.1
                    have h2 := HLT.out
                    omega
                   have hij := HI.out.1
                   have hstop : (k < 9 /\ ¬ j < D.size) ∨ ¬ k < 9 := by omega
                   have HDJ := Hd (show Lib.decFrom 0 (D.data.toList.take j) = some (v * f + p) by
                    have h1 := decFrom_join HL.out.1 HI.out.2.2
                    have h2 : ((D.data.toList.drop i).take k).length = k := by rw [List.length_take, List.length_drop, <- Lib.size_eq]; omega
                    rw [h2, <- HI.out.2.1] at h1
                    rw [take_split _ (show i <= j by omega), show j - i = k by omega]
                    exact h1)
                   have HJ := Hd (show i < j /\ j <= D.size by omega)
                   have HPF := Hd (show p < 4294967296 /\ f < 4294967296 by omega)
                   have HVL := Hd (show (Za v).length <= 65536 by omega)
                   clear hij hk1 hgo HI hvl
                   rcases hstop with ⟨q1, q2⟩ | q1
                   all_goals
                    have C1 := ref_times AL cL f (Za v) HPF.out.2 (by have := HVL.out; omega) wr (Yx.raw_ HL.out.2.1)
                    rw [Zi] at C1
                    have H1 := Hd C1
                    clear C1
                    go_wp2_with fail
                    refine H1.out.mono ?_
                    rintro e w2 ⟨v2, rfl, hO, hb⟩
                    obtain ⟨A2, c2, rfl, g1, g2, g3⟩ := hO.form
                    have ha := (Below.refl w2.heap.size w2).alloc (Nat.le_refl _) (.cells #[.int .u32 (p : Int)] 109)
                    have hrow : YJ (w2.alloc (.cells #[.int .u32 (p : Int)] 109)) w2.heap.size [p] := ⟨ZJ.new w2 _ _⟩
                    obtain ⟨w3, E⟩ : ∃ Y, Y = w2.alloc (.cells #[.int .u32 (p : Int)] 109) := ⟨_, rfl⟩
                    obtain ⟨g, hg⟩ : ∃ q, q = w2.heap.size := ⟨_, rfl⟩
                    have hlp : Zj [p] := by intro x hx; simp at hx; have := HPF.out.1; omega
                    have hvp : val [p] = p := by simp [val]
                    have R2 := Hd ((⟨Yt _, g1, g2, ZD.of_own g3⟩ : Zm w2 A2 c2 (Za (v * f))).below ha)
                    have HB2 := Hd (Zb (Zb HL.out.2.2 hb) ha)
                    rw [<- E, <- hg] at hrow
                    rw [<- E] at R2 HB2
                    have RP := Hd (show Zm w3 (some ⟨g, 0, none⟩) 1 (Za p) from by
                     have h1 := (hrow.front.cut (Za p).length).raw (by simp) (by intro x hx; exact hlp x (List.mem_of_mem_take hx))
                     have h2 := Y3 hlp
                     rw [hvp] at h2
                     rw [<- h2] at h1
                     exact h1)
                    have C2 := show Calls Tryz.prog 228 #[.slice (some ⟨g, 0, none⟩) 1 1] w3 fun e w' => e = .returned (.slice (some ⟨g, 0, none⟩) (Za (val [p])).length 1) /\ w3 = w' from Xo (some ⟨g, 0, none⟩) 1 [p] hlp (by simp) (by omega) w3.heap.size w3 hrow.reads
                    rw [hvp] at C2
                    have H2 := Hd C2
                    clear C2 hrow hlp hvp g1 g2 g3 hO hb ha H1
                    go_wp2_with fail
                    rw [<- E, <- hg]
                    clear E hg
                    refine H2.out.mono ?_
                    rintro e w3' ⟨rfl, rfl⟩
                    have C3 := ref_add A2 (some ⟨g, 0, none⟩) c2 1 (Za (v * f)) (Za p) (by
                     have h1 : (Za (v * f)).length <= (Za v).length + 1 := ZN.2 (by
                      rw [Nat.pow_succ]
                      have h1 := (ZN (n := v)).1 (Nat.le_refl _)
                      exact Nat.mul_lt_mul'' h1 HPF.out.2)
                     have := HVL.out
                     omega) (by have := RP.out.cap; omega) w3 R2.out RP.out
                    rw [Zi, Zi] at C3
                    have H3 := Hd C3
                    clear C3 H2
                    go_wp2_with fail
                    refine H3.out.mono ?_
                    rintro e w4 ⟨v4, rfl, hO4, hb4⟩
                    obtain ⟨A4, c4, zs, rfl, z1, z2, -, z4, z5, z6, z7⟩ := hO4.toN
                    have C4 := Xo A4 c4 zs z1 z4 z5 w4.heap.size w4 z6
                    rw [z2] at C4
                    have H4 := Hd C4
                    have HN := Hd (show Lib.decFrom 0 (D.data.toList.take j) = some (v * f + p) /\ Yx w4 (w.heap.size + 1) (.slice A4 (Za (v * f + p)).length c4) (v * f + p) /\ Below W.heap.size W w4 from
                     ⟨HDJ.out, z7.base (by have h1 := HB2.out.size; have h2 := PR.out.blk.lt; omega), Zb HB2.out hb4⟩)
                    clear C4 hO4 hb4 z1 z2 z4 z5 z6 z7 H3 R2 RP HB2
                    go_wp2_with fail
                    refine H4.out.mono ?_
                    rintro e w5 ⟨rfl, rfl⟩
                    go_wp2_with fail
                    go_roundw
                    case rel => exact ⟨j, v * f + p, A4, c4, rfl, HJ.out.2, rfl, HN⟩
                    case measure => simp [intOf]; have := HJ.out; omega
              . obtain rfl : i = D.size := by omega
                have hv := HL.out.1
                rw [Lib.size_eq, List.take_length] at hv
                have HZN := Hd (show zz = some (if neg then -(v : Int) else v) by rw [HZ3.out, hv]; rfl)
                have H5 := Hd (XW neg (.slice AL (Za v).length cL) v (Za v).length (w.heap.size + 1) wr (HL.out.2.1.ownL (Nat.le_refl _)))
                clear hv hvl hlt
                go_wp2_with fail
                refine H5.out.mono ?_
                rintro e w9 ⟨v9, rfl, hI, hb⟩
                obtain ⟨b9, A9, k9, c9, rfl⟩ : ∃ b A k c, v9 = .agg #[.bool b, .slice A k c] := by obtain ⟨A, c, h1, -⟩ := hI.form; exact ⟨_, _, _, _, h1⟩
                have hlow := Zb HL.out.2.2 hb
                have pr := PR.out.below hlow
                obtain ⟨l_r, r0, r1, f0, f1⟩ := pr.facts
                have HFB := Hd (ZW (Zb HB.out hlow) (Nat.le_refl w.heap.size) (.bool b9) (.slice A9 k9 c9))
                have HQ := Hd (pr.store (.bool b9) (.slice A9 k9 c9))
                have HI := Hd (hI.pair (g := w.heap.size) (a := .bool b9) (b := .slice A9 k9 c9) (by omega))
                clear hI hb hlow pr H5
                go_wp2_with fail
                obtain ⟨_, k0, k1, _, _⟩ := HQ.out.facts
                exact bodyPost_ret (v := .tuple #[.agg #[.bool b9, .slice A9 k9 c9], .bool true]) (by simp [results, Tryz.results187, go_sem, k0, k1]) rfl ⟨_, by rw [HZN.out]; rfl, by rw [HZN.out]; exact HI.out.base (Nat.le_succ _), HFB.out⟩

theorem row_set {w : World} {base n cap g i : Nat} {t : TypeId} {xs : List Value} (h : w.ownsRow base t 1 (.slice (some ⟨g, 0, none⟩) n cap) n xs) (u : Value) :
   (w.setCell ⟨g, i, none⟩ u).ownsRow base t 1 (.slice (some ⟨g, 0, none⟩) n cap) n (xs.set i u) := by
 refine ⟨by rw [List.length_set]; exact h.1, ?_⟩
 rcases h.2 with ⟨k1, k2⟩ | ⟨g', cap', cur, k1, k2, k3, k4, k5, k6, k7⟩
 . cases k1
 . injection k1 with a1 a2 a3
   injection a1 with a1
   injection a1 with a1
   subst a1 a3
   refine .inr ⟨g, cap, cur.setIfInBounds i u, rfl, k2, ZJ.set_ (show ZJ w g t cur from k3) i u, k4, k5, by simpa using k6, ?_⟩
   rw [Array.toList_setIfInBounds, <- k7, List.take_set]
theorem own_frozen {w : World} {base n cap g : Nat} {t : TypeId} {xs : List Value} (h : w.ownsRow base t 1 (.slice (some ⟨g, 0, none⟩) n cap) n xs) (i : Nat) : w.frozen? ⟨g, i, none⟩ = false := by
 rcases h.2 with ⟨k1, k2⟩ | ⟨g', cap', cur, k1, k2, k3, k4, k5, k6, k7⟩
 . cases k1
 . injection k1 with a1 a2 a3
   injection a1 with a1
   injection a1 with a1
   subst a1 a3
   exact ZJ.frozen (show ZJ w g t cur from k3) i
theorem own_cell {w : World} {base n cap g i : Nat} {zs : List Nat} (h : w.ownsRow base 109 1 (.slice (some ⟨g, 0, none⟩) n cap) n (Zh zs)) (hi : i < zs.length) : w.cell? ⟨g, i, none⟩ = some (.int .u32 zs[i]) := by
 have := h.cells (g := g) rfl i _ (YY hi)
 rw [show (⟨g, 0, none⟩ : Addr).add i = ⟨g, i, none⟩ by unfold Addr.add; split <;> simp_all] at this
 exact this
theorem atoi_digits {l : List UInt8} {p : Nat} (h : Lib.decFrom 0 l = some p) (h0 : l ≠ []) : Lib.atoi l = some (p : Int) := by
 cases l with
 | nil => exact absurd rfl h0
 | cons b r =>
  have hd : 48 <= b.toNat /\ b.toNat <= 57 := by
   refine Decidable.byContradiction fun hn => ?_
   rw [X5 (i := 0) (b := b) rfl (Xl (by omega))] at h
   cases h
  have h1 : (b == 45) = false := by
   rw [beq_eq_false_iff_ne]
   intro e
   rw [e] at hd
   exact absurd hd.1 (by decide)
  have h2 : (b == 43) = false := by
   rw [beq_eq_false_iff_ne]
   intro e
   rw [e] at hd
   exact absurd hd.1 (by decide)
  show (if (b == 45) = true then _ else if (b == 43) = true then _ else _) = _
  rw [if_neg (by rw [h1]; decide), if_neg (by rw [h2]; decide)]
  show Option.map _ (if false = true then none else Lib.decFrom 0 (b :: r)) = _
  rw [if_neg (by decide), h]
  rfl
theorem split_cut (s : ByteArray) : Split s ⟨(Lib.trimPrefix s.data.toList [45]).toArray⟩ (Lib.hasPrefix s.data.toList [45]) := by
 have h : Lib.hasPrefix s.data.toList [45] = XQ s.data.toList := by
  unfold Lib.hasPrefix XQ
  cases s.data.toList with
  | nil => rfl
  | cons b l =>
   by_cases hb : b = 45
   . subst hb; simp
   . have e1 : ((45 : UInt8) == b) = false := beq_eq_false_iff_ne.2 (fun e => hb e.symm)
     have e2 : ((some b : Option UInt8) == some 45) = false := by simp [hb]
     show ((45 : UInt8) == b && List.isPrefixOf [] l) = ((some b : Option UInt8) == some 45)
     rw [e1, e2]; rfl
 refine ⟨h.symm, ?_⟩
 unfold YL Lib.trimPrefix
 rw [h]
 cases XQ s.data.toList <;> simp
theorem nine_core {vP vt b B M part cc x r q : Nat} (h : vP + b * cc = vt * M + part) (e : r + B * q = cc + x * M) : vP + b * r + b * B * q = (vt + b * x) * M + part := by
 have h2 : b * r + b * B * q = b * cc + b * x * M := by rw [Nat.mul_assoc b B q, <- Nat.mul_add, e, Nat.mul_add, Nat.mul_assoc]
 rw [Nat.add_mul]
 omega
theorem nine_step {P xs : List Nat} {i cc part x : Nat} (hi : i < xs.length) (hx : xs[i] = x) (hP : P.length = i) (h : val P + 4294967296 ^ i * cc = val (xs.take i) * 1000000000 + part) :
  val (P ++ [(cc + x * 1000000000) % 4294967296]) + 4294967296 ^ (i + 1) * ((cc + x * 1000000000) / 4294967296) = val (xs.take (i + 1)) * 1000000000 + part := by
 rw [YK, hP, Zx hi, hx, Nat.pow_succ, show ∀ r, val [r] = r from fun r => by simp [val]]
 exact nine_core h (Nat.mod_add_div _ _)
def strLen : Value -> Nat
 | .string t => t.size
 | _ => 0
theorem cells_next {P xs : List Nat} {i d : Nat} (hP : P.length = i) (hi : i < xs.length) : (Zh (P ++ xs.drop i)).set i (.int .u32 (d : Int)) = Zh ((P ++ [d]) ++ xs.drop (i + 1)) := by
 subst hP
 have e : (P ++ xs.drop P.length).set P.length d = (P ++ [d]) ++ xs.drop (P.length + 1) := by
  rw [List.drop_eq_getElem_cons hi, List.set_append_right _ _ (Nat.le_refl _), Nat.sub_self, List.set_cons_zero, List.append_assoc]
  rfl
 rw [<- e]
 unfold Zh
 rw [List.map_set]
theorem at_next {P xs : List Nat} {i : Nat} (hP : P.length = i) (hi : i < xs.length) (h : i < (P ++ xs.drop i).length) : (P ++ xs.drop i)[i] = xs[i] := by
 rw [List.getElem_append_right (by omega)]
 simp [hP]
theorem str_more {t : ByteArray} (h : t.data.toList ≠ []) : t.toList.isEmpty = false := by
 rw [ByteArray.toList_eq]
 cases hl : t.data.toList with
 | nil => exact absurd hl h
 | cons _ _ => rfl
theorem str_more2 {t : ByteArray} (h : t.toList.isEmpty = false) : ¬ t.toList = [] := fun e => by rw [e] at h; cases h
theorem nine_size {a b k L : Nat} (h : a + 1 <= b) (hb : b <= 65536) (hk : k <= L + 1) (hL : L <= 65536 - b) : a <= 65536 /\ k <= 65536 - a /\ a < b := by omega
theorem natL_short {zs : List Nat} {n : Nat} (h : Zj zs) (e : val zs = n) : (Za n).length <= zs.length := by
 subst e
 have h1 := congrArg List.length (Y3 h)
 rw [List.length_take] at h1
 omega
theorem nine_end {w4 : World} {base L cc n c5 : Nat} {A5 : Option Addr} {P : List Nat} (hP : P.length = L) (hPl : Zj P) (hcc : cc < 1000000000) (hv : val P + 4294967296 ^ L * cc = n) (ho : w4.ownsRow base 109 1 (.slice A5 (L + 1) c5) (L + 1) (Zh P ++ [.int .u32 (cc : Int)])) :
  (Calls Tryz.prog 163 #[.slice A5 (L + 1) c5] w4 fun e w' => e = .returned (.slice A5 (Za n).length c5) /\ w4 = w') /\ Yx w4 base (.slice A5 (Za n).length c5) n /\ (Za n).length <= L + 1 := by
 have hown5 : w4.ownsRow base 109 1 (.slice A5 (L + 1) c5) (L + 1) (Zh (P ++ [cc])) := by
  have e : Zh (P ++ [cc]) = Zh P ++ [.int .u32 (cc : Int)] := by simp [Zh]
  rw [e]; exact ho
 have hl5 : (P ++ [cc]).length = L + 1 := by rw [List.length_append, hP]; rfl
 have hlim : Zj (P ++ [cc]) := fun y hy => by
  rw [List.mem_append, List.mem_singleton] at hy
  rcases hy with hy | rfl
  . exact hPl y hy
  . omega
 have hval5 : val (P ++ [cc]) = n := by
  rw [YK, hP, <- hv, show ∀ r, val [r] = r from fun r => by simp [val]]
 obtain ⟨g5, -, -, k1, k2⟩ := Kj hown5 (Nat.succ_ne_zero _)
 have hn5 := natL_short hlim hval5
 rw [hl5] at hn5
 generalize P ++ [cc] = zs at hown5 hl5 hlim hval5
 clear ho hv
 have C4 := JL A5 c5 zs hlim (by rw [hl5]; exact k1) k2 w4.heap.size w4 (by rw [<- hl5] at hown5; exact ZD.of_own hown5)
 rw [hval5, hl5] at C4
 have hL : XF w4 base (.slice A5 (L + 1) c5) n (L + 1) := ⟨A5, c5, zs, by rw [hl5], hlim, hval5, by rw [hl5]; exact Nat.le_refl _, by rw [hl5]; exact k1, k2, by rw [hl5]; exact hown5⟩
 obtain ⟨A', c', zs', z0, -, -, -, -, -, -, z7⟩ := hL.toN
 injection z0 with y1 y2 y3
 subst y1 y3
 exact ⟨C4, z7, hn5⟩
structure Nine (w0 wl : World) (base : Nat) (AL : Option Addr) (cL : Nat) (xs : List Nat) (part i cc : Nat) : Prop where
 ex : ∃ P : List Nat, P.length = i /\ Zj P /\ wl.ownsRow base 109 1 (.slice AL xs.length cL) xs.length (Zh (P ++ xs.drop i)) /\ val P + 4294967296 ^ i * cc = val (xs.take i) * 1000000000 + part
 low : Below w0.heap.size w0 wl
structure Got (W wl : World) (base : Nat) (D d : List UInt8) (AL : Option Addr) (cL v : Nat) : Prop where
 ex : ∃ pre, D = pre ++ d /\ Lib.decFrom 0 pre = some v
 nine : v = 0 ∨ d.length % 9 = 0
 own : Yx wl base (.slice AL (Za v).length cL) v
 low : Below W.heap.size W wl

theorem exact_Read (s : ByteArray) (hs : s.size <= 65536) (w : World) :
   Calls Tryz.prog 105 #[.string s] w (RetRead w.heap.size w (Yy s.data.toList)) := by
 obtain ⟨i0, hi, hz0, hz1, hz2⟩ := info_parts YC
 have pr := Zr.new w 24 (.bool false) (.slice none 0 0)
 have b0 := (Below.refl w.heap.size w).alloc (Nat.le_refl _) (.cells #[.bool false, .slice none 0 0] 24)
 obtain ⟨zz, hzz⟩ : ∃ z, z = Yy s.data.toList := ⟨_, rfl⟩
 rw [<- hzz]
 have HSP := split_cut s
 have hDs : (⟨(Lib.trimPrefix s.data.toList [45]).toArray⟩ : ByteArray).size <= 65536 := by
   have h1 : (Lib.trimPrefix s.data.toList [45]).length <= s.data.toList.length := by
     unfold Lib.trimPrefix
     split
     . simp
     . exact Nat.le_refl _
   rw [Lib.size_eq]
   rw [Lib.size_eq] at hs
   simpa using Nat.le_trans h1 hs
 have HZZ := Hd hzz
 have PR := Hd pr
 have HB := Hd b0
 have HC := Hd (fun V => Tryz.strings_CutPrefix s ⟨#[45]⟩ V)
 have HSPL := Hd HSP
 have HDS := Hd hDs
 clear hzz pr b0 HSP hDs hs
 go_enter Tryz.func105, Tryz.ntmps105
 go_wp2_with fail
 refine (HC.out _).mono ?_
 rintro e W ⟨rfl, hw⟩
 rw [<- hw] at PR HB
 clear hw HC
 change Hid (Split s ⟨(Lib.trimPrefix s.data.toList [45]).toArray⟩ (Lib.hasPrefix s.data.toList [45])) at HSPL
 generalize (⟨(Lib.trimPrefix s.data.toList [45]).toArray⟩ : ByteArray) = D at HSPL HDS ⊢
 generalize Lib.hasPrefix s.data.toList [45] = neg at HSPL ⊢
 have HZ2 := Hd (show zz = (X8 D.data.toList neg).map fun n => if neg then -(n : Int) else n by rw [HZZ.out]; unfold Yy; rw [HSPL.out.neg, HSPL.out.tail])
 obtain ⟨r, hr⟩ : ∃ r, r = (X8 D.data.toList neg).isNone := ⟨_, rfl⟩
 have HR := Hd hr
 clear HZZ HSPL hr
 go_upto_region 2 with fail
 go_cut [36] (fun s36 wc => s36 = .bool r /\ Below W.heap.size W wc)
 case first =>
   by_cases h0 : D.size = 0
   . have hnil : D.data.toList = [] := List.eq_nil_of_length_eq_zero (by rw [<- Lib.size_eq]; exact h0)
     have HN := Hd (show r = true by rw [HR.out, hnil]; rfl)
     have g2 : D.toList = [] := by rw [ByteArray.toList_eq]; exact hnil
     have g1 : D.toList.isEmpty = true := by rw [g2]; rfl
     clear hnil h0
     go_wp2_with fail
     go_meet
     case rel => exact ⟨by rw [HN.out], Below.refl _ _⟩
   . have h1 : 0 < D.size := by omega
     have hb := byte_at D 0 h1
     have hne : D.data.toList ≠ [] := fun e => by rw [e] at hb; cases hb
     have hbad : badD D.data.toList neg = ((D[0]'h1 == 48) && (decide (1 < D.size) || neg)) := by
       unfold badD
       have hne2 : D.data.toList.isEmpty = false := by
         cases hD : D.data.toList with
         | nil => exact absurd hD hne
         | cons _ _ => rfl
       rw [hne2, List.head?_eq_getElem?, hb, <- Lib.size_eq, Bool.false_or]
       rfl
     have g1 : D.toList.isEmpty = false := str_more hne
     have g2 : ¬ D.toList = [] := str_more2 g1
     have a0 : (0 : Int) < (D.size : Int) := by omega
     clear hb hne
     by_cases h48 : D[0]'h1 = 48
     . rw [h48] at hbad
       have a1 : (D[0]'h1).toNat = 48 := by rw [h48]; rfl
       clear h48
       by_cases h2 : 1 < D.size
       . have HN := Hd (show r = true by rw [HR.out]; unfold X8; rw [hbad]; simp [h2])
         have a3 : (1 : Int) < (D.size : Int) := by omega
         clear hbad
         go_wp2_with fail
         go_meet
         case rel => exact ⟨by rw [HN.out], Below.refl _ _⟩
       . have a3 : ¬ (1 : Int) < (D.size : Int) := by omega
         rcases Bool.eq_false_or_eq_true neg with hg | hg
         . subst hg
           have HN := Hd (show r = true by rw [HR.out]; unfold X8; rw [hbad]; simp)
           clear hbad
           go_wp2_with fail
           go_meet
           case rel => exact ⟨by rw [HN.out], Below.refl _ _⟩
         . subst hg
           have hbad : badD D.data.toList false = false := by rw [hbad]; simp [h2]
           have HT := Hd (Jy D HDS.out W)
           have HBAD := Hd hbad
           clear hbad
           go_wp2_with fail
           refine HT.out.mono ?_
           rintro e w2 ⟨t, rfl, ht, hb⟩
           have HTT := Hd ht
           have HB2 := Hd hb
           clear ht hb HT
           by_cases hn : NonD D.data.toList
           . have HN := Hd (show r = true by rw [HR.out]; unfold X8; rw [HBAD.out, (Xc _ _).2 hn]; rfl)
             have g1 : t.toList.isEmpty = false := str_more (fun e => HTT.out.1 e hn)
             have g2 : ¬ t.toList = [] := str_more2 g1
             clear hn
             go_wp2_with fail
             go_meet
             case rel => exact ⟨by rw [HN.out], HB2.out⟩
           . have HN := Hd (show r = false by
               rw [HR.out]; unfold X8; rw [HBAD.out]
               cases h : Lib.decFrom 0 D.data.toList with
               | none => exact absurd ((Xc _ _).1 h) hn
               | some v => simp)
             have g2 : t.toList = [] := by rw [ByteArray.toList_eq]; exact HTT.out.2 hn
             have g1 : t.toList.isEmpty = true := by rw [g2]; rfl
             clear hn
             go_wp2_with fail
             go_meet
             case rel => exact ⟨by rw [HN.out], HB2.out⟩
     . have hbad : badD D.data.toList neg = false := by rw [hbad]; simp [h48]
       have a1 : (((D[0]'h1).toNat : Int) == 48) = false := by
         have : (D[0]'h1).toNat ≠ 48 := fun e => h48 (UInt8.toNat_inj.1 e)
         exact beq_eq_false_iff_ne.2 (by omega)
       clear h48
       have HT := Hd (Jy D HDS.out W)
       have HBAD := Hd hbad
       clear hbad
       go_wp2_with fail
       refine HT.out.mono ?_
       rintro e w2 ⟨t, rfl, ht, hb⟩
       have HTT := Hd ht
       have HB2 := Hd hb
       clear ht hb HT
       by_cases hn : NonD D.data.toList
       . have HN := Hd (show r = true by rw [HR.out]; unfold X8; rw [HBAD.out, (Xc _ _).2 hn]; rfl)
         have g1 : t.toList.isEmpty = false := str_more (fun e => HTT.out.1 e hn)
         have g2 : ¬ t.toList = [] := str_more2 g1
         clear hn
         go_wp2_with fail
         go_meet
         case rel => exact ⟨by rw [HN.out], HB2.out⟩
       . have HN := Hd (show r = false by
           rw [HR.out]; unfold X8; rw [HBAD.out]
           cases h : Lib.decFrom 0 D.data.toList with
           | none => exact absurd ((Xc _ _).1 h) hn
           | some v => simp)
         have g2 : t.toList = [] := by rw [ByteArray.toList_eq]; exact HTT.out.2 hn
         have g1 : t.toList.isEmpty = true := by rw [g2]; rfl
         clear hn
         go_wp2_with fail
         go_meet
         case rel => exact ⟨by rw [HN.out], HB2.out⟩
 case rest =>
   obtain ⟨h36, hbw⟩ := hcut
   subst h36
   have PRW := Hd (PR.out.below hbw)
   have HBW := Hd (Zb HB.out hbw)
   clear hbw PR HB
   cases r with
   | true =>
     have HZN := Hd (show zz = none by
       rw [HZ2.out]
       cases h : X8 D.data.toList neg with
       | none => rfl
       | some v => have := HR.out; rw [h] at this; cases this)
     clear HZ2 HR
     have HFB := Hd (ZW HBW.out (Nat.le_refl _) (.bool false) (.slice none 0 0))
     have HQ := Hd (PRW.out.store (.bool false) (.slice none 0 0))
     obtain ⟨l_r, r0, r1, f0, f1⟩ := PRW.out.facts
     go_wp2_with fail
     obtain ⟨_, k0, k1, _, _⟩ := HQ.out.facts
     exact bodyPost_ret (v := .tuple #[.agg #[.bool false, .slice none 0 0], .bool false]) (by simp [results, Tryz.results105, go_sem, k0, k1]) rfl ⟨_, by rw [HZN.out]; rfl, by rw [HZN.out]; exact Zc.nought _ _, HFB.out⟩
   | false =>
     have HV := Hd (show ∃ v, Lib.decFrom 0 D.data.toList = some v /\ zz = some (if neg then -(v : Int) else v) by
       have h := HR.out
       have hz := HZ2.out
       unfold X8 at h hz
       cases hb : badD D.data.toList neg with
       | true => rw [hb] at h; cases h
       | false =>
         rw [hb, if_neg Bool.false_ne_true] at h hz
         cases hd : Lib.decFrom 0 D.data.toList with
         | none => rw [hd] at h; cases h
         | some v => rw [hd] at hz; exact ⟨v, rfl, hz⟩)
     have HDIG := Hd (show ∀ b ∈ D.data.toList, Jo b = true from nonD_not.1 (fun hn => by
       obtain ⟨v, hv, -⟩ := HV.out
       rw [(Xc _ _).2 hn] at hv; cases hv))
     have HW := Hd (show w.heap.size + 1 <= wc.heap.size from PRW.out.blk.lt)
     clear HZ2 HR
     go_wp2_with fail
     go_loopw [4, 6] (fun s4 s6 wl => ∃ (d : ByteArray) (v : Nat) (AL : Option Addr) (cL : Nat), s4 = .string d /\ s6 = .slice AL (Za v).length cL /\ d.size <= 65536 /\ (Za v).length <= 65536 - d.size /\ Hid (Got wc wl wc.heap.size D.data.toList d.data.toList AL cL v)) (fun s4 _ _ => strLen s4)
     case atStart => exact ⟨D, 0, none, 0, rfl, rfl, HDS.out, Nat.zero_le _, Hd ⟨⟨[], rfl, rfl⟩, .inl rfl, ⟨none, 0, rfl, Nat.le_refl _, by omega, World.ownsRow_nil _ _ _ _⟩, Below.refl _ _⟩⟩
     case round =>
       obtain ⟨d, v, AL, cL, rfl, rfl, hd, hvl, HG⟩ := hrel
       by_cases h0 : d.size = 0
       . have hnil : d.data.toList = [] := List.eq_nil_of_length_eq_zero (by rw [<- Lib.size_eq]; exact h0)
         have g2 : d.toList = [] := by rw [ByteArray.toList_eq]; exact hnil
         have g1 : d.toList.isEmpty = true := by rw [g2]; rfl
         have HZN := Hd (show zz = some (if neg then -(v : Int) else v) by
           obtain ⟨pre, h1, h2⟩ := HG.out.ex
           obtain ⟨v2, h3, h4⟩ := HV.out
           rw [h1, hnil, List.append_nil, h2] at h3
           rw [h4, Option.some.inj h3])
         have H5 := Hd (Y4 neg (.slice AL (Za v).length cL) v (Za v).length wc.heap.size wr (HG.out.own.ownL (Nat.le_refl _)))
         have HLW := Hd HG.out.low
         clear hnil h0 HG hvl
         go_wp2_with fail
         refine H5.out.mono ?_
         rintro e w9 ⟨v9, rfl, hI, hb⟩
         obtain ⟨b9, A9, k9, c9, rfl⟩ : ∃ b A k c, v9 = .agg #[.bool b, .slice A k c] := by obtain ⟨A, c, h1, -⟩ := hI.form; exact ⟨_, _, _, _, h1⟩
         have hlow := Zb HLW.out hb
         have pr := PRW.out.below hlow
         obtain ⟨l_r, r0, r1, f0, f1⟩ := pr.facts
         have HFB := Hd (ZW (Zb HBW.out hlow) (Nat.le_refl w.heap.size) (.bool b9) (.slice A9 k9 c9))
         have HQ := Hd (pr.store (.bool b9) (.slice A9 k9 c9))
         have HI := Hd (hI.pair (g := w.heap.size) (a := .bool b9) (b := .slice A9 k9 c9) HW.out)
         clear hI hb hlow pr H5
         go_wp2_with fail
         obtain ⟨_, k0, k1, _, _⟩ := HQ.out.facts
         exact bodyPost_ret (v := .tuple #[.agg #[.bool b9, .slice A9 k9 c9], .bool true]) (by simp [results, Tryz.results105, go_sem, k0, k1]) rfl ⟨_, by rw [HZN.out]; rfl, by rw [HZN.out]; exact HI.out.base (Nat.le_of_lt HW.out), HFB.out⟩
       . obtain ⟨n, hn⟩ : ∃ n, n = (d.size - 1) % 9 + 1 := ⟨_, rfl⟩
         have hn9 : n <= 9 := by omega
         have hnd : n <= d.size := by omega
         have e1 : (d.extract 0 n).data.toList = d.data.toList.take n := by rw [Lib.extract_data]; simp
         have e2 : (d.extract n d.size).data.toList = d.data.toList.drop n := by
           rw [Lib.extract_data]
           exact List.take_of_length_le (by rw [List.length_drop, <- Lib.size_eq]; exact Nat.le_refl _)
         have hsub : ∀ b ∈ d.data.toList.take n, Jo b = true := fun b hb => by
           obtain ⟨pre, h1, -⟩ := HG.out.ex
           exact HDIG.out b (by rw [h1]; exact List.mem_append_right _ (List.mem_of_mem_take hb))
         obtain ⟨p, hp⟩ : ∃ p, Lib.decFrom 0 (d.data.toList.take n) = some p := by
           cases h : Lib.decFrom 0 (d.data.toList.take n) with
           | none => exact absurd ((Xc _ _).1 h) (nonD_not.2 hsub)
           | some p => exact ⟨p, rfl⟩
         have hlt9 : (d.data.toList.take n).length = n := by rw [List.length_take, <- Lib.size_eq]; omega
         have hp9 : p < 1000000000 := by
           have h1 := Lib.decFrom_lt _ _ _ hp
           rw [hlt9] at h1
           have h2 : 10 ^ n <= 10 ^ 9 := Nat.pow_le_pow_right (by omega) hn9
           have h3 : (10 : Nat) ^ 9 = 1000000000 := by decide
           omega
         have C1 := Hd (Tryz.strconv_Atoi (d.extract 0 n) (p : Int) (by rw [Lib.size_eq, e1, hlt9]; omega) (by
           rw [e1]
           exact atoi_digits hp (fun e => by rw [e] at hlt9; simp at hlt9; omega)) wr)
         have HGN := Hd (show (∃ pre, D.data.toList = pre ++ (d.extract n d.size).data.toList /\ Lib.decFrom 0 pre = some (v * 1000000000 + p)) /\ (d.extract n d.size).data.toList.length % 9 = 0 /\ (d.extract n d.size).size < d.size /\ (d.extract n d.size).size + 1 <= d.size by
           obtain ⟨pre, h1, h2⟩ := HG.out.ex
           have hl : (d.extract n d.size).data.toList.length = d.size - n := by rw [e2, List.length_drop, <- Lib.size_eq]
           refine ⟨⟨pre ++ d.data.toList.take n, by rw [e2, List.append_assoc, List.take_append_drop]; exact h1, ?_⟩, by rw [hl, hn]; omega, by rw [Lib.size_eq, hl]; omega, by rw [Lib.size_eq, hl]; omega⟩
           have h3 := decFrom_join h2 hp
           rw [hlt9] at h3
           rw [h3]
           congr 2
           rcases HG.out.nine with h4 | h4
           . rw [h4]; simp
           . rw [<- Lib.size_eq] at h4
             rw [show n = 9 by omega])
         have g1 : d.toList.isEmpty = false := str_more (fun e => h0 (by rw [Lib.size_eq, e]; rfl))
         have g2 : ¬ d.toList = [] := str_more2 g1
         have b0 : (0 : Int) <= (d.size : Int) - 1 := by omega
         have b1 : ((d.size : Int) - 1) % 9 + 1 = (n : Int) := by omega
         have b2 : (0 : Int) <= (n : Int) := by omega
         have b3 : (n : Int) <= (d.size : Int) := by omega
         have HPN := Hd (And.intro hp9 hn9)
         have HOWN := Hd HG.out.own
         have HLOW := Hd HG.out.low
         clear e1 e2 hsub hp hlt9 hn HG
         go_wp2_with fail
         refine C1.out.mono ?_
         rintro e w2 ⟨rfl, tt, hw2⟩
         have hb2 : Below wr.heap.size wr w2 := by rw [hw2]; exact Lib.bytesWorld_below _ _ _
         have HO2 := Hd (HOWN.out.below hb2)
         have HL2 := Hd (Zb HLOW.out hb2)
         have hp9' : (p : Int) < 1000000000 := by omega
         have hp0' : (0 : Int) <= (p : Int) := by omega
         have hown2 : w2.ownsRow wc.heap.size 109 1 (.slice AL (Za v).length cL) (Za v).length (Zh (Za v)) := by
           obtain ⟨A', c', h1, h2, h3, h4⟩ := HO2.out.form
           injection h1 with a1 a2 a3
           subst a1 a3
           exact h4
         have HXV := Hd (And.intro (Yt v) (Zi v))
         have HQ3 := Hd hown2
         have hxl : (Za v).length <= 65536 := by omega
         have HVL := Hd hvl
         clear hb2 hw2 C1 HOWN HLOW HO2 hown2 hvl
         generalize Za v = xs at HXV HQ3 hxl HVL ⊢
         have H6 := Hd (show Nine wc w2 wc.heap.size AL cL xs p 0 p from ⟨⟨[], rfl, (fun x hx => by cases hx), HQ3.out, by simp [val]⟩, HL2.out⟩)
         go_wp2_with fail
         go_loopw [10, 62] (fun s10 s62 wl => ∃ cc i : Nat, s10 = .int .u64 cc /\ s62 = .int .i64 i /\ i <= xs.length /\ cc < 1000000000 /\ Hid (Nine wc wl wc.heap.size AL cL xs p i cc)) (fun _ s62 _ => xs.length - (intOf s62).toNat)
         case atStart => exact ⟨p, 0, rfl, rfl, Nat.zero_le _, HPN.out.1, H6⟩
         case round =>
           clear H6
           obtain ⟨cc, i, rfl, rfl, hix, hcc, HI⟩ := hrel
           by_cases hlt : i < xs.length
           . obtain ⟨P, hP, hPl, hown, hval⟩ := HI.out.ex
             obtain ⟨g, rfl, hg, -, -⟩ := Kj hown (by omega)
             have hil : i < (P ++ xs.drop i).length := by simp; omega
             have hcell := own_cell hown hil
             rw [at_next hP hlt hil] at hcell
             have fz := own_frozen hown i
             have hx32 := Zs HXV.out.1 hlt
             have hglt := (hown.lt g rfl).2
             generalize hxe : xs[i] = x at hcell hx32
             have hstep := nine_step hlt hxe hP hval
             have hset := row_set hown (i := i) (.int .u32 (((cc + x * 1000000000) % 4294967296 : Nat) : Int))
             rw [cells_next hP hlt] at hset
             have S := Hd (show Nine wc (wr.setCell ⟨g, i, none⟩ (.int .u32 (((cc + x * 1000000000) % 4294967296 : Nat) : Int))) wc.heap.size (some ⟨g, 0, none⟩) cL xs p (i + 1) ((cc + x * 1000000000) / 4294967296) from
               ⟨⟨_, by simp [hP], (fun y hy => by
                 rw [List.mem_append, List.mem_singleton] at hy
                 rcases hy with hy | rfl
                 . exact hPl y hy
                 . exact Nat.mod_lt _ (by omega)), hset, hstep⟩, HI.out.low.setCell (p := ⟨g, i, none⟩) hg _⟩)
             have HQ := Hd (show (cc + x * 1000000000) / 4294967296 < 1000000000 /\ cc + x * 1000000000 < 18446744073709551616 /\ i + 1 <= xs.length by omega)
             have d0 : (0 : Int) <= (i : Int) := by omega
             have d1 : (i : Int) < (xs.length : Int) := by omega
             have HLT := Hd hlt
             clear hxe hstep hset hP hPl hown hval hil HI hg hlt
             go_wp2_with fail
             rw [show ((cc : Int) + (x : Int) * 1000000000) / 4294967296 = (((cc + x * 1000000000) / 4294967296 : Nat) : Int) by omega, show ((cc : Int) + (x : Int) * 1000000000) % 4294967296 = (((cc + x * 1000000000) % 4294967296 : Nat) : Int) by omega]
             go_roundw
             case rel => exact ⟨_, i + 1, rfl, by go_num, HQ.out.2.2, HQ.out.1, S⟩
             case measure => simp [intOf]; have := HLT.out; omega
           . obtain rfl : i = xs.length := by omega
             obtain ⟨P, hP, hPl, hown, hval⟩ := HI.out.ex
             rw [List.drop_length, List.append_nil] at hown
             rw [List.take_length, HXV.out.2] at hval
             have HVV := Hd hval
             have HPL := Hd (And.intro hP hPl)
             have HOW := Hd hown
             have HLI := Hd HI.out.low
             have hcc2 : (cc : Int) < 1000000000 := by omega
             have hcc0 : (0 : Int) <= (cc : Int) := by omega
             clear hval hP hPl hown HI hlt
             go_wp2_with (
               at_builtin
               refine Zw _ rfl (.tmp 81) (.tmp 84) _ rfl wc.heap.size 109 i0 _ 1 4 Tryz.underlying22 hi hz0 hz1 hz2 rfl (by omega) (.slice AL xs.length cL) xs.length (Zh P) rfl (HOW.out.alloc _) (wr.heap.size + 1) (some ⟨wr.heap.size, 0, none⟩) 1 1 [.int .u32 (cc : Int)] rfl (ZD.new1 wr _ 1 _ rfl) (by intro x hx; simp at hx; subst hx; rfl) (by unfold maxLen; omega) (by omega) (by have := HLI.out.size; simp; omega) ?_
               intro v' w4 ho hg4 _
               obtain ⟨A5, c5, rfl⟩ := Xh (by omega) ho
               have HO4 := Hd ho
               have HL4 := Hd ((HLI.out.alloc (by have := HLI.out.size; omega) (.cells #[.int .u32 (cc : Int)] 109)).grown hg4 (by have := HLI.out.size; simp; omega) (fun k hk => (HOW.out.lt k hk).1))
               clear ho hg4)
             obtain ⟨C4, hN5, hn5⟩ := nine_end HPL.out.1 HPL.out.2 hcc HVV.out HO4.out
             have H7 := Hd C4
             have HN := Hd (show Got wc w4 wc.heap.size D.data.toList (d.extract n d.size).data.toList A5 c5 (v * 1000000000 + p) from ⟨HGN.out.1, .inr HGN.out.2.1, hN5, HL4.out⟩)
             have HSZ := Hd (nine_size HGN.out.2.2.2 hd hn5 HVL.out)
             clear C4 hN5 hn5 HO4 HL4
             go_wp2_with fail
             refine H7.out.mono ?_
             rintro e w5 ⟨rfl, rfl⟩
             go_wp2_with fail
             go_roundw
             case rel => exact ⟨d.extract n d.size, v * 1000000000 + p, A5, c5, rfl, rfl, HSZ.out.1, HSZ.out.2.1, HN⟩
             case measure => exact HSZ.out.2.2

theorem ZE.zero (w : World) (base : Nat) : ZE w base (.agg #[.bool false, .slice none 0 0, .bool false, .slice none 0 0]) 0 0 := ⟨none, 0, none, 0, rfl, Zc.nought _ _, Zc.nought _ _⟩
def Xt (w : World) (o : Option (Int × Int)) (e : Ending) (w' : World) : Prop := ∃ n d, Js w n d o.isSome e w' /\ ∀ p, o = some p -> p = (n, d)
def RetZB (w : World) (z : Int) (b : Bool) (e : Ending) (w' : World) : Prop := ∃ v, e = .returned (.tuple #[v, .bool b]) /\ Zc w' w.heap.size v z /\ Below w.heap.size w w'

theorem ref02_Whole (z one : Int) (A : Option Addr) (c : Nat) (w : World) (h_z : Zm w A c (Za z.natAbs)) (o_z : Zc w 0 (.agg #[.bool (decide (z < 0)), .slice A (Za z.natAbs).length c]) z) (h1 : one = 1) :
   Calls Tryz.prog 188 #[.agg #[.bool (decide (z < 0)), .slice A (Za z.natAbs).length c]] w (Ya w z one) := by
 have OW := Hd o_z
 have H1 := Hd h1
 clear o_z h1
 have b0 := (((Below.refl w.heap.size w).alloc (Nat.le_refl _) (.cells #[.bool (decide (z < 0)), .slice A (Za z.natAbs).length c] 24)).alloc (by simp) (.cells #[.bool false, .slice none 0 0, .bool false, .slice none 0 0] 26))
 have p0 := (Zr.new w 24 (.bool (decide (z < 0))) (.slice A (Za z.natAbs).length c)).alloc (.cells #[.bool false, .slice none 0 0, .bool false, .slice none 0 0] 26)
 have p1 := Zz.new (w.alloc (.cells #[.bool (decide (z < 0)), .slice A (Za z.natAbs).length c] 24)) (.bool false) (.slice none 0 0) (.bool false) (.slice none 0 0)
 simp only [World.size_alloc] at p1
 have V_z := Hd (NV.of h_z b0 p0)
 have P_r0 := Hd p1
 have RW_z := Hd h_z
 have HBW := Hd b0
 clear b0 p0 p1 h_z
 go_enter Tryz.func188, Tryz.ntmps188
 obtain ⟨W, E⟩ : ∃ W, W = ((w.alloc (.cells #[.bool (decide (z < 0)), .slice A (Za z.natAbs).length c] 24)).alloc (.cells #[.bool false, .slice none 0 0, .bool false, .slice none 0 0] 26)) := ⟨_, rfl⟩
 go_upto_region 1 with fail
 rw [<- E] at V_z P_r0 HBW ⊢
 clear E
 have hszr := P_r0.out.blk.lt
 have O_z := Hd (OW.out.below HBW.out)
 clear OW
 go_wp2_with fail
 refine Zd [.val (.agg #[.bool (decide (z < 0)), .slice A (Za z.natAbs).length c]) [], .any false (fun u V => Zc V 0 u one) [], .any false (fun u V => ZE V 0 u z one) [1], .old (w.heap.size + 1) 26 #[.bool false, .slice none 0 0, .bool false, .slice none 0 0] 0 4 2 []] (w.heap.size + 1) W [26] X6 _ Zf (by have := P_r0.out.blk.lt; omega) (Below.refl _ _) (Zu.refl _ _ _) rfl ?_ ?_ ?_ ?_ ?_ ?_ ?_ ?_ rfl (by simp [ZP]) ?_ ?_ ?_ ?_
 iterate 8 kernel_rfl
 . simp only [Zy, and_true]
   exact ⟨fun u V V' h k => h.kept k (by decide), fun u V V' h k => h.kept k (by decide)⟩
 . simp only [Z5, and_true]
   exact ⟨Nat.le_refl _, P_r0.out.blk.lt, P_r0.out.blk, by simp⟩
 . simp (maxSteps := 4000000) [ZH, YD, Zg, ZF, Zn]
   repeat' (first | apply And.intro | (intro (u : Value)) | (intro (u : Nat)))
   all_goals try exact ⟨_, _, _, rfl, rfl, rfl, rfl, YN⟩
   all_goals first
   | (intro V hV hK
      obtain ⟨-, a_z, b_z, -, -⟩ := (Zr.mk (hK.blk V_z.out.pair.blk (by decide))).facts
      clear hV hK
      go_simp
      first
      | exact Below.refl _ _
      | ((with_reducible refine (rof 1 one H1.out (by decide) (by decide) V).mono ?_); rintro _ _ ⟨_, rfl, x, y⟩; exact ⟨x.base (Nat.zero_le _), y⟩))
   | (intro V hV hK h1
      have oz := O_z.out.kept hK (by decide)
      obtain ⟨A6, c6, rfl, -⟩ := h1.raw
      clear hV hK
      go_simp
      exact ⟨⟨_, _, _, _, rfl, oz, h1⟩, Below.refl _ _⟩)
   | exact fun _ _ _ (h : ZE _ _ _ _ _) => h.cells
 . simp [YH, ZK, Zg, ZF, Zn]
   intro u1 u2 V hV hK h1 h2 bq _ _ _
   have HF := Hd h2
   obtain ⟨A6, c6, A7, c7, rfl, -⟩ := h2.form
   simp [Yd, Value.cells] at bq
   have k0 := bq.cell 0
   have k1 := bq.cell 1
   have k2 := bq.cell 2
   have k3 := bq.cell 3
   simp at k0 k1 k2 k3
   have HB9 := Hd (HBW.out.trans (hV.mono (by omega)))
   clear h1 h2 hV hK bq
   go_wp2_with fail
   exact bodyPost_ret (by simp [results, Tryz.results188, go_sem, k0, k1, k2, k3]) rfl ⟨_, rfl, HF.out, HB9.out⟩


theorem front_mem {s : List UInt8} : (47 : UInt8) ∈ s ↔ (ZA s).length < s.length := by
 constructor
 . intro h
   have := front_len h
   omega
 . intro h
   refine Decidable.byContradiction fun hn => ?_
   rw [JH hn] at h
   omega
theorem front_bar {s : List UInt8} (h : (ZA s).length < s.length) : s[(ZA s).length]? = some 47 := by
 have e := Y9 (front_mem.2 h)
 generalize ZA s = a at *
 generalize YQ s = b at *
 rw [e]; simp
theorem front_get {s : List UInt8} {i : Nat} (h : i < (ZA s).length) : s[i]? ≠ some 47 := by
 intro k
 by_cases hb : (47 : UInt8) ∈ s
 . have e := Y9 hb
   have h0 := front_no s
   generalize ZA s = a at *
   generalize YQ s = b at *
   rw [e, List.getElem?_append_left h] at k
   exact h0 (List.mem_of_getElem? k)
 . exact hb (List.mem_of_getElem? k)
theorem front_step {s : List UInt8} {i : Nat} {b : UInt8} (hi : i <= (ZA s).length) (hb : s[i]? = some b) : (b = 47 -> i = (ZA s).length /\ (ZA s).length < s.length) /\ (b ≠ 47 -> i + 1 <= (ZA s).length) := by
 have hl : i < s.length := (List.getElem?_eq_some_iff.1 hb).1
 constructor
 . rintro rfl
   have : i = (ZA s).length := by
    refine Decidable.byContradiction fun hn => front_get (by omega) hb
   exact ⟨this, by omega⟩
 . intro hn
   refine Decidable.byContradiction fun hk => ?_
   have e : i = (ZA s).length := by omega
   subst e
   rw [front_bar hl] at hb
   exact hn (Option.some.inj hb).symm
theorem front_size (s : ByteArray) : (ZA s.data.toList).length <= s.size := by rw [Lib.size_eq]; exact (List.takeWhile_sublist _).length_le
theorem ext_front_any (s : ByteArray) : s.extract 0 (ZA s.data.toList).length = ⟨(ZA s.data.toList).toArray⟩ := by
 by_cases h : (47 : UInt8) ∈ s.data.toList
 . exact ext_front h
 . apply ByteArray.ext
   apply Array.ext'
   rw [Lib.extract_data, JH h]
   simp
   exact List.take_of_length_le (by rw [<- Lib.size_eq]; exact Nat.le_refl _)
end Go.Proofs.YtdonecnhdkjniaaGreatDoor
