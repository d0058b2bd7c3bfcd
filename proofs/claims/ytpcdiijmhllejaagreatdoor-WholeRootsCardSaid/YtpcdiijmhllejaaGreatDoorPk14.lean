/- Several texts in one: GrowW, Look, Apart. -/
import Derived.Test.YtpcdiijmhllejaaGreatDoorPk13
import Derived.BigQuiet
/- growLimb: the walk. -/
namespace Go.Proofs.YtpcdiijmhllejaaGreatDoor
open Go.RowKit

set_option maxRecDepth 100000 in
set_option maxHeartbeats 2000000 in
theorem grow_limb (b g0 cap m B0 : Nat) (l : Nat → Value) (n : Nat → Nat) (w0 w : World) (p : Plain b g0 m B0 l n) (h : Shelf w0 w b g0 cap m B0 l (fun _ => nilS) n (fun j => List.replicate (n j) (markU j))) :
    Calls Tryz.prog 55 #[.pointer (some ⟨b, 0, none⟩)] w fun e w' => e = .returned (.tuple #[]) ∧ ∃ long, Grown w0 w' b g0 cap m B0 l long n m := by
  obtain ⟨i0, hi, hz0, hz1, hz2⟩ := info_parts limbInfo
  have hm := p.hm
  have HP := Lib.hid p
  have H0 := Lib.hid (⟨fun _ => nilS, h, fun j hj _ => absurd hj (Nat.not_lt_zero j), fun _ _ => rfl⟩ : ∃ long, Grown w0 w b g0 cap m B0 l long n 0)
  clear p h
  go_enter Tryz.func55, Tryz.ntmps55
  go_wp2_with fail
  go_loopw [2] (fun s wr => ∃ i : Nat, s = .int .i64 i ∧ i ≤ m ∧ Hid (∃ long, Grown w0 wr b g0 cap m B0 l long n i)) (fun s _ => m - (intOf s).toNat)
  case atStart => exact ⟨0, rfl, Nat.zero_le _, H0⟩
  case round =>
    obtain ⟨i, rfl, hi', HR⟩ := hrel
    clear H0
    obtain ⟨long, hgr⟩ := HR.out
    have c1 := hgr.shelf.book.cell 1
    simp at c1
    have HS := Lib.hid hgr
    clear HR hgr
    by_cases hlt : i < m
    · have a0 : (0 : Int) ≤ (i : Int) := by omega
      have a1 : (i : Int) < (m : Int) := by omega
      obtain ⟨d0, d1, d2, -⟩ := HS.out.shelf.arr.at_ hlt
      rw [HS.out.rest i (Nat.le_refl _)] at d1
      obtain ⟨Ai, ci, hl⟩ := own_form (by omega) (HS.out.shelf.rows i hlt)
      have HL := Lib.hid hl
      rw [hl] at d0
      clear hl
      go_wp2_with fail
      have hNh := HS.out.shelf.arr.lt
      have hg1 := HS.out.below HP.out ((Below.refl wr.heap.size wr).alloc (Nat.le_refl _) (.cells #[.slice Ai (n i) ci, nilS, .int .i64 ((i : Int) + 1)] tHeld))
      have hcopy := Blk.new wr tHeld #[.slice Ai (n i) ci, nilS, .int .i64 ((i : Int) + 1)]
      have hunder : ∀ j, j < i → j < m → ∀ g, (long j).ownBlock = some g → g < wr.heap.size := fun j hj hjm g hg => ((HS.out.longs j hj hjm).1.lt g hg).2
      obtain ⟨W, E⟩ : ∃ W, W = wr.alloc (.cells #[.slice Ai (n i) ci, nilS, .int .i64 ((i : Int) + 1)] tHeld) := ⟨_, rfl⟩
      rw [← E] at hcopy hg1 ⊢
      clear E c1 d0 d1 d2
      have hni := HP.out.hn i hlt
      have H1 := Lib.hid (⟨hg1, by rw [HL.out]; exact hcopy, hg1.shelf.rows i hlt, .inl ⟨Ai, ci, HL.out, HL.out⟩, hunder⟩ : Growing w0 W b g0 cap m B0 l long n i wr.heap.size 0 (l i))
      have e0 := hcopy.cell 0
      have hltc := hcopy.lt
      simp at e0
      rw [HL.out] at H1
      obtain ⟨ni, hnn⟩ : ∃ ni, ni = n i := ⟨_, rfl⟩
      obtain ⟨Nh, hNN⟩ : ∃ Nh, Nh = wr.heap.size := ⟨_, rfl⟩
      rw [← hnn] at HL H1 hni e0 ⊢
      rw [← hNN] at H1 hNh e0 hltc ⊢
      have HNN := Lib.hid hnn
      clear hcopy hg1 hnn hNN HS hunder
      go_wp2_with fail
      clear e0
      go_loopw [4, 5] (fun v s wq => ∃ k : Nat, s = .int .i64 k ∧ k ≤ 70 ∧ Hid (Growing w0 wq b g0 cap m B0 l long n i Nh k v)) (fun _ s _ => 70 - (intOf s).toNat)
      case atStart => exact ⟨0, rfl, Nat.zero_le _, H1⟩
      case round =>
        obtain ⟨k, rfl, hk, HG⟩ := hrel
        clear H1
        have e2 := HG.out.copy.cell 2
        have hlt4 := HG.out.copy.lt
        simp at e2
        by_cases hlk : k < 70
        · have q0 : (0 : Int) ≤ (k : Int) := by omega
          have q1 : (k : Int) < 70 := by omega
          obtain ⟨mu, hmu⟩ : ∃ mu : Int, markU i = .int .u32 mu := ⟨_, rfl⟩
          have hgg := HG.out.below HP.out ((Below.refl wr.heap.size wr).alloc (Nat.le_refl _) (.cells #[.int .u32 mu] tLimb))
          have hB0 : B0 ≤ wr.heap.size := by have := HP.out.hb; have := HP.out.hg; omega
          have hcell := (Blk.new wr tLimb #[.int .u32 mu]).cell 0
          have hb2 : n i + k + 1 ≤ maxLen ∧ (n i + k + 1) * 4 ≤ 140737488355328 := by rw [← HNN.out]; unfold maxLen; omega
          have HC := Lib.hid hcell
          have HGG := Lib.hid hgg
          have HB := Lib.hid hb2
          have C0 := fun V => mark_limb i (by omega) V
          rw [hmu] at C0
          have C := Lib.hid C0
          have HM := Lib.hid hmu
          clear hcell hgg hb2 C0 hmu
          go_wp2_with (first
            | (go_at_call 113; with_reducible refine (C.out _).mono ?_; rintro e w' ⟨rfl, rfl⟩)
            | (at_builtin; refine wpList_append_one _ rfl (.tmp 28) (.tmp 32) _ rfl B0 tLimb i0 _ 4 Tryz.underlying22 hi hz0 hz1 hz2 rfl u4 (n i + k) _ rfl HGG.out.row ⟨wr.heap.size, 0, none⟩ 1 (.int .u32 mu) rfl HC.out rfl HB.out.1 HB.out.2 (by simp; omega) ?_; intro v' w' ho hg))
          rw [← HM.out] at ho
          go_roundw
          case rel => exact ⟨k + 1, by go_num, by omega, Lib.hid (HGG.out.step HP.out hlt hNh ho hg)⟩
          case measure => simp [intOf]; omega
        · obtain rfl : k = 70 := by omega
          have c1 := HG.out.grown.shelf.book.cell 1
          simp at c1
          obtain ⟨d0, d1, d2, f1⟩ := HG.out.grown.shelf.arr.at_ hlt
          have S := Lib.hid (HG.out.done HP.out hlt hNh)
          obtain ⟨Av, cv, rfl⟩ := own_form (by omega) HG.out.row
          clear HG
          go_wp2_with fail
          go_roundw
          case rel => exact ⟨i + 1, by go_num, hlt, Lib.hid ⟨_, S.out⟩⟩
          case measure => simp [intOf]; omega
    · obtain rfl : i = m := by omega
      have HF := Lib.hid (⟨long, HS.out⟩ : ∃ long, Grown w0 wr b g0 cap i B0 l long n i)
      clear HP HS
      go_wp2_with fail
      exact bodyPost_end (v := .tuple #[]) (by simp [results, Tryz.results55, go_sem]) rfl ⟨rfl, HF.out⟩
end Go.Proofs.YtpcdiijmhllejaaGreatDoor

/- lookLimb: all lists of a Book bear their marks. -/
namespace Go.Proofs.YtpcdiijmhllejaaGreatDoor
open Go.RowKit

set_option maxRecDepth 100000 in
set_option maxHeartbeats 400000 in
theorem is_limb (j : Nat) (hj : j ≤ 100000) (w : World) :
    Calls Tryz.prog 129 #[markU j, .int .i64 ((j : Int) + 1)] w fun e w' => e = .returned (.bool true) ∧ w = w' := by
  have e : (((100001 + j : Nat) : Int) == 100000 + ((j : Int) + 1)) = true := by simp; omega
  unfold markU
  go_enter Tryz.func129, Tryz.ntmps129
  go_wp2
  go_ret
  exact ⟨by go_num, rfl⟩
theorem mark_at {w : World} {base : Nat} {A : Option Addr} {n c i : Nat} (h : w.ownsRow base tLimb 1 (.slice A n c) n (List.replicate n (markU i))) {k : Nat} (hk : k < n) : ∃ g, A = some ⟨g, 0, none⟩ ∧ g < w.heap.size ∧ w.cell? ⟨g, k, none⟩ = some (markU i) := by
  obtain ⟨g, cur, rfl, hb, hs, ht⟩ := own_blk h (by omega)
  refine ⟨g, rfl, hb.lt, ?_⟩
  rw [hb.cell]
  have e : cur[k]? = (cur.toList.take n)[k]? := by rw [List.getElem?_take, if_pos hk]; simp
  rw [e, ht]
  simp [hk]

set_option maxRecDepth 100000 in
set_option maxHeartbeats 2000000 in
theorem look_limb (b g0 cap m B0 : Nat) (l long : Nat → Value) (n : Nat → Nat) (w0 w : World) (p : Plain b g0 m B0 l n) (h : Grown w0 w b g0 cap m B0 l long n m) :
    Calls Tryz.prog 71 #[.pointer (some ⟨b, 0, none⟩)] w fun e w' => e = .returned (.bool true) ∧ Below w.heap.size w w' := by
  have hm := p.hm
  have HP := Lib.hid p
  have HS := Lib.hid h
  clear p h
  go_enter Tryz.func71, Tryz.ntmps71
  go_wp2_with fail
  go_loopw [3] (fun s wr => ∃ i : Nat, s = .int .i64 i ∧ i ≤ m ∧ Hid (Below w.heap.size w wr)) (fun s _ => m - (intOf s).toNat)
  case atStart => exact ⟨0, rfl, Nat.zero_le _, Below.refl _ _⟩
  case round =>
    obtain ⟨i, rfl, hi', HB⟩ := hrel
    have HG := Lib.hid (HS.out.below HP.out HB.out)
    have c1 := HG.out.shelf.book.cell 1
    simp at c1
    by_cases hlt : i < m
    · have a0 : (0 : Int) ≤ (i : Int) := by omega
      have a1 : (i : Int) < (m : Int) := by omega
      obtain ⟨d0, d1, d2, -⟩ := HG.out.shelf.arr.at_ hlt
      obtain ⟨Ai, ci, hl⟩ := own_form (by omega) (HG.out.shelf.rows i hlt)
      obtain ⟨Ag, cg, hlg⟩ := own_form (by omega) (HG.out.longs i hlt hlt).1
      have r1 := HG.out.shelf.rows i hlt
      have r2 := (HG.out.longs i hlt hlt).1
      rw [hl] at d0 r1
      rw [hlg] at d1 r2
      have hni := HP.out.hn i hlt
      have R1 := Lib.hid r1
      have R2 := Lib.hid r2
      clear hl hlg r1 r2
      go_wp2_with fail
      have hcopy := Blk.new wr tHeld #[.slice Ai (n i) ci, .slice Ag (n i + 70) cg, .int .i64 ((i : Int) + 1)]
      have hb1 := HB.out.alloc HB.out.size (.cells #[.slice Ai (n i) ci, .slice Ag (n i + 70) cg, .int .i64 ((i : Int) + 1)] tHeld)
      have q1 := own_below R1.out ((Below.refl wr.heap.size wr).alloc (Nat.le_refl _) (.cells #[.slice Ai (n i) ci, .slice Ag (n i + 70) cg, .int .i64 ((i : Int) + 1)] tHeld))
      have q2 := own_below R2.out ((Below.refl wr.heap.size wr).alloc (Nat.le_refl _) (.cells #[.slice Ai (n i) ci, .slice Ag (n i + 70) cg, .int .i64 ((i : Int) + 1)] tHeld))
      obtain ⟨W, E⟩ : ∃ W, W = wr.alloc (.cells #[.slice Ai (n i) ci, .slice Ag (n i + 70) cg, .int .i64 ((i : Int) + 1)] tHeld) := ⟨_, rfl⟩
      rw [← E] at hcopy hb1 q1 q2 ⊢
      clear E c1 d0 d1 d2 R1 R2 HG HB
      obtain ⟨ni, hnn⟩ : ∃ ni, ni = n i := ⟨_, rfl⟩
      obtain ⟨Nh, hNN⟩ : ∃ Nh, Nh = wr.heap.size := ⟨_, rfl⟩
      rw [← hNN] at hcopy ⊢
      rw [← hnn] at hcopy q1 q2 hni ⊢
      obtain ⟨mu, hmu⟩ : ∃ mu : Int, markU i = .int .u32 mu := ⟨_, rfl⟩
      have C0 := fun V => (is_limb i (by omega) V).mono fun e w' h => (⟨h.1, h.2.symm⟩ : e = .returned (.bool true) ∧ w' = V)
      have M1 := fun (V : World) (hV : Below W.heap.size W V) (k : Nat) (hk : k < ni) => mark_at (own_below q1 hV) hk
      have M2 := fun (V : World) (hV : Below W.heap.size W V) (k : Nat) (hk : k < ni + 70) => mark_at (own_below q2 hV) hk
      rw [hmu] at C0
      simp only [hmu] at M1 M2
      have HC := Lib.hid C0
      have H1 := Lib.hid M1
      have H2 := Lib.hid M2
      have HK := Lib.hid hcopy
      have HB1 := Lib.hid hb1
      clear C0 M1 M2 hcopy hb1 q1 q2 hnn hNN hmu
      go_loopw [5] (fun s wq => ∃ k : Nat, s = .int .i64 k ∧ k ≤ ni + 70 ∧ Hid (Below W.heap.size W wq)) (fun s _ => ni + 70 - (intOf s).toNat)
      case atStart => exact ⟨0, rfl, Nat.zero_le _, Below.refl _ _⟩
      case round =>
        obtain ⟨k, rfl, hk, HQ⟩ := hrel
        have hc := HK.out.below HQ.out HK.out.lt
        have e0 := hc.cell 0
        have e1 := hc.cell 1
        have e2 := hc.cell 2
        have lt1 := hc.lt
        simp at e0 e1 e2
        clear hc
        by_cases hlk : k < ni + 70
        · have p0 : (0 : Int) ≤ (k : Int) := by omega
          have p1 : (k : Int) < (ni : Int) + 70 := by omega
          obtain ⟨g, rfl, hgl, hcell⟩ := H2.out wr HQ.out k hlk
          by_cases hk2 : k < ni
          · have p2 : (k : Int) < (ni : Int) := by omega
            obtain ⟨g', rfl, hgl', hcell'⟩ := H1.out wr HQ.out k hk2
            go_wp2_with fail
            go_quiet ((go_at_call 129; exact Calls.quiet_of_same (HC.out _)))
            go_wp2_with fail
            go_roundw
            case rel => exact ⟨k + 1, by go_num, hlk, Lib.hid (below_drewN HQ.out _)⟩
            case measure => simp [intOf]; omega
          · have p2 : (ni : Int) ≤ (k : Int) := by omega
            go_wp2_with fail
            go_quiet ((go_at_call 129; exact Calls.quiet_of_same (HC.out _)))
            go_wp2_with fail
            go_roundw
            case rel => exact ⟨k + 1, by go_num, hlk, Lib.hid (below_drewN HQ.out _)⟩
            case measure => simp [intOf]; omega
        · obtain rfl : k = ni + 70 := by omega
          clear H1 H2 HC
          go_wp2_with fail
          go_roundw
          case rel => exact ⟨i + 1, by go_num, hlt, Lib.hid (belowTo HB1.out HQ.out)⟩
          case measure => simp [intOf]; omega
    · obtain rfl : i = m := by omega
      clear HG
      go_wp2_with fail
      go_ret
      exact ⟨rfl, HB.out⟩
end Go.Proofs.YtpcdiijmhllejaaGreatDoor

/- Apart: lists of limbs that share no memory pass. (Written by wip/book/gennil.py.) -/
namespace Go.Proofs.YtpcdiijmhllejaaGreatDoor
open Go.RowKit

set_option maxRecDepth 100000 in
set_option maxHeartbeats 4000000 in
theorem apart_true (b g0 cap m B0 : Nat) (l : Nat → Value) (n : Nat → Nat) (X : Nat → List Value) (w0 w : World) (p : Plain b g0 m B0 l n) (h : Shelf w0 w b g0 cap m B0 l (fun _ => nilS) n X) :
    Calls Tryz.prog 18 #[.pointer (some ⟨b, 0, none⟩)] w fun e w' => e = .returned (.bool true) ∧ Below B0 w0 w' := by
  have hB0 := Lib.hid (Nat.le_of_lt (Nat.lt_of_le_of_lt p.hb h.book.lt))
  have HP := Lib.hid p
  have C0 := Lib.hid (fill_limb b g0 cap m B0 l n X w0 w p h)
  have C1 := Lib.hid (fun (V : World) (hV : Shelf w0 V b g0 cap m B0 l (fun _ => nilS) n (fun j => List.replicate (n j) (markU j))) => grow_limb b g0 cap m B0 l n w0 V p hV)
  have C2 := Lib.hid (fun (V : World) (long : Nat → Value) (hV : Grown w0 V b g0 cap m B0 l long n m) => look_limb b g0 cap m B0 l long n w0 V p hV)
  clear p h
  go_enter Tryz.func18, Tryz.ntmps18
  go_wp2_with fail
  refine C0.out.mono ?_
  rintro e w1 ⟨rfl, hs1⟩
  have HK := Lib.hid hs1.book
  have HS := Lib.hid hs1
  clear hs1 C0
  go_wp2_with (first
    | (go_at_call 40; with_reducible refine (fill_Number b m _ _ HK.out).mono ?_; rintro e w' ⟨rfl, rfl⟩)
    | (go_at_call 41; with_reducible refine (fill_Float b m _ _ HK.out).mono ?_; rintro e w' ⟨rfl, rfl⟩)
    | (go_at_call 42; with_reducible refine (fill_Complex b m _ _ HK.out).mono ?_; rintro e w' ⟨rfl, rfl⟩)
    | (go_at_call 43; with_reducible refine (fill_Text b m _ _ HK.out).mono ?_; rintro e w' ⟨rfl, rfl⟩)
    | (go_at_call 44; with_reducible refine (fill_Frac b m _ _ HK.out).mono ?_; rintro e w' ⟨rfl, rfl⟩)
    | (go_at_call 45; with_reducible refine (fill_Gauss b m _ _ HK.out).mono ?_; rintro e w' ⟨rfl, rfl⟩)
    | (go_at_call 46; with_reducible refine (fill_Ray b m _ _ HK.out).mono ?_; rintro e w' ⟨rfl, rfl⟩)
    | (go_at_call 47; with_reducible refine (fill_Element b m _ _ HK.out).mono ?_; rintro e w' ⟨rfl, rfl⟩)
    | (go_at_call 48; with_reducible refine (fill_Coat b m _ _ HK.out).mono ?_; rintro e w' ⟨rfl, rfl⟩)
    | (go_at_call 49; with_reducible refine (fill_Disc b m _ _ HK.out).mono ?_; rintro e w' ⟨rfl, rfl⟩)
    | (go_at_call 50; with_reducible refine (fill_Part b m _ _ HK.out).mono ?_; rintro e w' ⟨rfl, rfl⟩)
    | (go_at_call 51; with_reducible refine (fill_Def b m _ _ HK.out).mono ?_; rintro e w' ⟨rfl, rfl⟩)
    | (go_at_call 52; with_reducible refine (fill_Item b m _ _ HK.out).mono ?_; rintro e w' ⟨rfl, rfl⟩)
    | (go_at_call 53; with_reducible refine (fill_Act b m _ _ HK.out).mono ?_; rintro e w' ⟨rfl, rfl⟩)
    | (go_at_call 54; with_reducible refine (fill_Reply b m _ _ HK.out).mono ?_; rintro e w' ⟨rfl, rfl⟩))
  refine (C1.out _ HS.out).mono ?_
  rintro e w2 ⟨rfl, long, hg2⟩
  have HK := Lib.hid hg2.shelf.book
  have HG := Lib.hid hg2
  clear hg2 C1 HS
  go_wp2_with (first
    | (go_at_call 56; with_reducible refine (grow_Number b m _ _ HK.out).mono ?_; rintro e w' ⟨rfl, rfl⟩)
    | (go_at_call 57; with_reducible refine (grow_Float b m _ _ HK.out).mono ?_; rintro e w' ⟨rfl, rfl⟩)
    | (go_at_call 58; with_reducible refine (grow_Complex b m _ _ HK.out).mono ?_; rintro e w' ⟨rfl, rfl⟩)
    | (go_at_call 59; with_reducible refine (grow_Text b m _ _ HK.out).mono ?_; rintro e w' ⟨rfl, rfl⟩)
    | (go_at_call 60; with_reducible refine (grow_Frac b m _ _ HK.out).mono ?_; rintro e w' ⟨rfl, rfl⟩)
    | (go_at_call 61; with_reducible refine (grow_Gauss b m _ _ HK.out).mono ?_; rintro e w' ⟨rfl, rfl⟩)
    | (go_at_call 62; with_reducible refine (grow_Ray b m _ _ HK.out).mono ?_; rintro e w' ⟨rfl, rfl⟩)
    | (go_at_call 63; with_reducible refine (grow_Element b m _ _ HK.out).mono ?_; rintro e w' ⟨rfl, rfl⟩)
    | (go_at_call 64; with_reducible refine (grow_Coat b m _ _ HK.out).mono ?_; rintro e w' ⟨rfl, rfl⟩)
    | (go_at_call 65; with_reducible refine (grow_Disc b m _ _ HK.out).mono ?_; rintro e w' ⟨rfl, rfl⟩)
    | (go_at_call 66; with_reducible refine (grow_Part b m _ _ HK.out).mono ?_; rintro e w' ⟨rfl, rfl⟩)
    | (go_at_call 67; with_reducible refine (grow_Def b m _ _ HK.out).mono ?_; rintro e w' ⟨rfl, rfl⟩)
    | (go_at_call 68; with_reducible refine (grow_Item b m _ _ HK.out).mono ?_; rintro e w' ⟨rfl, rfl⟩)
    | (go_at_call 69; with_reducible refine (grow_Act b m _ _ HK.out).mono ?_; rintro e w' ⟨rfl, rfl⟩)
    | (go_at_call 70; with_reducible refine (grow_Reply b m _ _ HK.out).mono ?_; rintro e w' ⟨rfl, rfl⟩)
    | (go_at_call 71; with_reducible refine (C2.out _ long HG.out).mono ?_; rintro e w3 ⟨rfl, hb3⟩; have hk3 := HK.out.below hb3 HK.out.lt; have HK3 := Lib.hid hk3; clear hk3)
    | (go_at_call 72; with_reducible refine (look_Number b m _ _ HK3.out).mono ?_; rintro e w' ⟨rfl, rfl⟩)
    | (go_at_call 73; with_reducible refine (look_Float b m _ _ HK3.out).mono ?_; rintro e w' ⟨rfl, rfl⟩)
    | (go_at_call 74; with_reducible refine (look_Complex b m _ _ HK3.out).mono ?_; rintro e w' ⟨rfl, rfl⟩)
    | (go_at_call 75; with_reducible refine (look_Text b m _ _ HK3.out).mono ?_; rintro e w' ⟨rfl, rfl⟩)
    | (go_at_call 76; with_reducible refine (look_Frac b m _ _ HK3.out).mono ?_; rintro e w' ⟨rfl, rfl⟩)
    | (go_at_call 77; with_reducible refine (look_Gauss b m _ _ HK3.out).mono ?_; rintro e w' ⟨rfl, rfl⟩)
    | (go_at_call 78; with_reducible refine (look_Ray b m _ _ HK3.out).mono ?_; rintro e w' ⟨rfl, rfl⟩)
    | (go_at_call 79; with_reducible refine (look_Element b m _ _ HK3.out).mono ?_; rintro e w' ⟨rfl, rfl⟩)
    | (go_at_call 80; with_reducible refine (look_Coat b m _ _ HK3.out).mono ?_; rintro e w' ⟨rfl, rfl⟩)
    | (go_at_call 81; with_reducible refine (look_Disc b m _ _ HK3.out).mono ?_; rintro e w' ⟨rfl, rfl⟩)
    | (go_at_call 82; with_reducible refine (look_Part b m _ _ HK3.out).mono ?_; rintro e w' ⟨rfl, rfl⟩)
    | (go_at_call 83; with_reducible refine (look_Def b m _ _ HK3.out).mono ?_; rintro e w' ⟨rfl, rfl⟩)
    | (go_at_call 84; with_reducible refine (look_Item b m _ _ HK3.out).mono ?_; rintro e w' ⟨rfl, rfl⟩)
    | (go_at_call 85; with_reducible refine (look_Act b m _ _ HK3.out).mono ?_; rintro e w' ⟨rfl, rfl⟩)
    | (go_at_call 86; with_reducible refine (look_Reply b m _ _ HK3.out).mono ?_; rintro e w' ⟨rfl, rfl⟩))
  go_ret
  exact ⟨rfl, HG.out.shelf.low.trans (hb3.mono (by have := HG.out.shelf.book.lt; have := HP.out.hb; omega))⟩
end Go.Proofs.YtpcdiijmhllejaaGreatDoor
