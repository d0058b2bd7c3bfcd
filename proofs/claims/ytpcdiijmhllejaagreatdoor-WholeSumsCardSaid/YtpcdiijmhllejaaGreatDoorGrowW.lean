/- growLimb: the walk. -/
import Derived.Test.YtpcdiijmhllejaaGreatDoorGrow
namespace Go.Proofs.YtpcdiijmhllejaaGreatDoor
open Go.RowKit

set_option maxRecDepth 100000 in
set_option maxHeartbeats 2000000 in
theorem grow_limb (b g0 cap m B0 : Nat) (l : Nat → Value) (n : Nat → Nat) (w0 w : World) (p : Plain b g0 m B0 l n) (h : Shelf w0 w b g0 cap m B0 l (fun _ => nilS) n (fun j => List.replicate (n j) (markU j))) :
    Calls Tryz.prog 55 #[.pointer (some ⟨b, 0, none⟩)] w fun e w' => e = .returned (.tuple #[]) ∧ ∃ long, Grown w0 w' b g0 cap m B0 l long n m := by
  obtain ⟨i0, hi, hz0, hz1, hz2⟩ := info_parts limbInfo
  have hm := p.hm
  have HP := Lib.hid p
  have H0 := Lib.hid (⟨fun _ => nilS, h, fun j hj _ => absurd hj (Nat.not_lt_zero j), fun _ _ => rfl⟩ : ∃ long, Grown w0 w b g0 cap m B0 l long n 0)
  clear p h
  go_enter Tryz.func55, Tryz.ntmps55
  go_wp2_with fail
  go_loopw [2] (fun s wr => ∃ i : Nat, s = .int .i64 i ∧ i ≤ m ∧ Hid (∃ long, Grown w0 wr b g0 cap m B0 l long n i)) (fun s _ => m - (intOf s).toNat)
  case atStart => exact ⟨0, rfl, Nat.zero_le _, H0⟩
  case round =>
    obtain ⟨i, rfl, hi', HR⟩ := hrel
    clear H0
    obtain ⟨long, hgr⟩ := HR.out
    have c1 := hgr.shelf.book.cell 1
    simp at c1
    have HS := Lib.hid hgr
    clear HR hgr
    by_cases hlt : i < m
    · have a0 : (0 : Int) ≤ (i : Int) := by omega
      have a1 : (i : Int) < (m : Int) := by omega
      obtain ⟨d0, d1, d2, -⟩ := HS.out.shelf.arr.at_ hlt
      rw [HS.out.rest i (Nat.le_refl _)] at d1
      obtain ⟨Ai, ci, hl⟩ := own_form (by omega) (HS.out.shelf.rows i hlt)
      have HL := Lib.hid hl
      rw [hl] at d0
      clear hl
      go_wp2_with fail
      have hNh := HS.out.shelf.arr.lt
      have hg1 := HS.out.below HP.out ((Below.refl wr.heap.size wr).alloc (Nat.le_refl _) (.cells #[.slice Ai (n i) ci, nilS, .int .i64 ((i : Int) + 1)] tHeld))
      have hcopy := Blk.new wr tHeld #[.slice Ai (n i) ci, nilS, .int .i64 ((i : Int) + 1)]
      have hunder : ∀ j, j < i → j < m → ∀ g, (long j).ownBlock = some g → g < wr.heap.size := fun j hj hjm g hg => ((HS.out.longs j hj hjm).1.lt g hg).2
      obtain ⟨W, E⟩ : ∃ W, W = wr.alloc (.cells #[.slice Ai (n i) ci, nilS, .int .i64 ((i : Int) + 1)] tHeld) := ⟨_, rfl⟩
      rw [← E] at hcopy hg1 ⊢
      clear E c1 d0 d1 d2
      have hni := HP.out.hn i hlt
      have H1 := Lib.hid (⟨hg1, by rw [HL.out]; exact hcopy, hg1.shelf.rows i hlt, .inl ⟨Ai, ci, HL.out, HL.out⟩, hunder⟩ : Growing w0 W b g0 cap m B0 l long n i wr.heap.size 0 (l i))
      have e0 := hcopy.cell 0
      have hltc := hcopy.lt
      simp at e0
      rw [HL.out] at H1
      obtain ⟨ni, hnn⟩ : ∃ ni, ni = n i := ⟨_, rfl⟩
      obtain ⟨Nh, hNN⟩ : ∃ Nh, Nh = wr.heap.size := ⟨_, rfl⟩
      rw [← hnn] at HL H1 hni e0 ⊢
      rw [← hNN] at H1 hNh e0 hltc ⊢
      have HNN := Lib.hid hnn
      clear hcopy hg1 hnn hNN HS hunder
      go_wp2_with fail
      clear e0
      go_loopw [4, 5] (fun v s wq => ∃ k : Nat, s = .int .i64 k ∧ k ≤ 70 ∧ Hid (Growing w0 wq b g0 cap m B0 l long n i Nh k v)) (fun _ s _ => 70 - (intOf s).toNat)
      case atStart => exact ⟨0, rfl, Nat.zero_le _, H1⟩
      case round =>
        obtain ⟨k, rfl, hk, HG⟩ := hrel
        clear H1
        have e2 := HG.out.copy.cell 2
        have hlt4 := HG.out.copy.lt
        simp at e2
        by_cases hlk : k < 70
        · have q0 : (0 : Int) ≤ (k : Int) := by omega
          have q1 : (k : Int) < 70 := by omega
          obtain ⟨mu, hmu⟩ : ∃ mu : Int, markU i = .int .u32 mu := ⟨_, rfl⟩
          have hgg := HG.out.below HP.out ((Below.refl wr.heap.size wr).alloc (Nat.le_refl _) (.cells #[.int .u32 mu] tLimb))
          have hB0 : B0 ≤ wr.heap.size := by have := HP.out.hb; have := HP.out.hg; omega
          have hcell := (Blk.new wr tLimb #[.int .u32 mu]).cell 0
          have hb2 : n i + k + 1 ≤ maxLen ∧ (n i + k + 1) * 4 ≤ 140737488355328 := by rw [← HNN.out]; unfold maxLen; omega
          have HC := Lib.hid hcell
          have HGG := Lib.hid hgg
          have HB := Lib.hid hb2
          have C0 := fun V => mark_limb i (by omega) V
          rw [hmu] at C0
          have C := Lib.hid C0
          have HM := Lib.hid hmu
          clear hcell hgg hb2 C0 hmu
          go_wp2_with (first
            | (go_at_call 113; with_reducible refine (C.out _).mono ?_; rintro e w' ⟨rfl, rfl⟩)
            | (at_builtin; refine wpList_append_one _ rfl (.tmp 28) (.tmp 32) _ rfl B0 tLimb i0 _ 4 Tryz.underlying22 hi hz0 hz1 hz2 rfl u4 (n i + k) _ rfl HGG.out.row ⟨wr.heap.size, 0, none⟩ 1 (.int .u32 mu) rfl HC.out rfl HB.out.1 HB.out.2 (by simp; omega) ?_; intro v' w' ho hg))
          rw [← HM.out] at ho
          go_roundw
          case rel => exact ⟨k + 1, by go_num, by omega, Lib.hid (HGG.out.step HP.out hlt hNh ho hg)⟩
          case measure => simp [intOf]; omega
        · obtain rfl : k = 70 := by omega
          have c1 := HG.out.grown.shelf.book.cell 1
          simp at c1
          obtain ⟨d0, d1, d2, f1⟩ := HG.out.grown.shelf.arr.at_ hlt
          have S := Lib.hid (HG.out.done HP.out hlt hNh)
          obtain ⟨Av, cv, rfl⟩ := own_form (by omega) HG.out.row
          clear HG
          go_wp2_with fail
          go_roundw
          case rel => exact ⟨i + 1, by go_num, hlt, Lib.hid ⟨_, S.out⟩⟩
          case measure => simp [intOf]; omega
    · obtain rfl : i = m := by omega
      have HF := Lib.hid (⟨long, HS.out⟩ : ∃ long, Grown w0 wr b g0 cap i B0 l long n i)
      clear HP HS
      go_wp2_with fail
      exact bodyPost_end (v := .tuple #[]) (by simp [results, Tryz.results55, go_sem]) rfl ⟨rfl, HF.out⟩
end Go.Proofs.YtpcdiijmhllejaaGreatDoor
