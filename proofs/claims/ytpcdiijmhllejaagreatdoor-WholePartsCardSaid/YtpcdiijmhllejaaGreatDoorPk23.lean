/- Several texts in one: Look. -/
import Derived.Test.YtpcdiijmhllejaaGreatDoorPk22
import Derived.BigQuiet
/- lookLimb: all lists of a Book bear their marks. -/
namespace Go.Proofs.YtpcdiijmhllejaaGreatDoor
open Go.RowKit

set_option maxRecDepth 100000 in
set_option maxHeartbeats 400000 in
theorem is_limb (j : Nat) (hj : j ≤ 100000) (w : World) :
    Calls Tryz.prog 129 #[markU j, .int .i64 ((j : Int) + 1)] w fun e w' => e = .returned (.bool true) ∧ w = w' := by
  have e : (((100001 + j : Nat) : Int) == 100000 + ((j : Int) + 1)) = true := by simp; omega
  unfold markU
  go_enter Tryz.func129, Tryz.ntmps129
  go_wp2
  go_ret
  exact ⟨by go_num, rfl⟩
theorem mark_at {w : World} {base : Nat} {A : Option Addr} {n c i : Nat} (h : w.ownsRow base tLimb 1 (.slice A n c) n (List.replicate n (markU i))) {k : Nat} (hk : k < n) : ∃ g, A = some ⟨g, 0, none⟩ ∧ g < w.heap.size ∧ w.cell? ⟨g, k, none⟩ = some (markU i) := by
  obtain ⟨g, cur, rfl, hb, hs, ht⟩ := own_blk h (by omega)
  refine ⟨g, rfl, hb.lt, ?_⟩
  rw [hb.cell]
  have e : cur[k]? = (cur.toList.take n)[k]? := by rw [List.getElem?_take, if_pos hk]; simp
  rw [e, ht]
  simp [hk]

set_option maxRecDepth 100000 in
set_option maxHeartbeats 2000000 in
theorem look_limb (b g0 cap m B0 : Nat) (l long : Nat → Value) (n : Nat → Nat) (w0 w : World) (p : Plain b g0 m B0 l n) (h : Grown w0 w b g0 cap m B0 l long n m) :
    Calls Tryz.prog 71 #[.pointer (some ⟨b, 0, none⟩)] w fun e w' => e = .returned (.bool true) ∧ Below w.heap.size w w' := by
  have hm := p.hm
  have HP := Lib.hid p
  have HS := Lib.hid h
  clear p h
  go_enter Tryz.func71, Tryz.ntmps71
  go_wp2_with fail
  go_loopw [3] (fun s wr => ∃ i : Nat, s = .int .i64 i ∧ i ≤ m ∧ Hid (Below w.heap.size w wr)) (fun s _ => m - (intOf s).toNat)
  case atStart => exact ⟨0, rfl, Nat.zero_le _, Below.refl _ _⟩
  case round =>
    obtain ⟨i, rfl, hi', HB⟩ := hrel
    have HG := Lib.hid (HS.out.below HP.out HB.out)
    have c1 := HG.out.shelf.book.cell 1
    simp at c1
    by_cases hlt : i < m
    · have a0 : (0 : Int) ≤ (i : Int) := by omega
      have a1 : (i : Int) < (m : Int) := by omega
      obtain ⟨d0, d1, d2, -⟩ := HG.out.shelf.arr.at_ hlt
      obtain ⟨Ai, ci, hl⟩ := own_form (by omega) (HG.out.shelf.rows i hlt)
      obtain ⟨Ag, cg, hlg⟩ := own_form (by omega) (HG.out.longs i hlt hlt).1
      have r1 := HG.out.shelf.rows i hlt
      have r2 := (HG.out.longs i hlt hlt).1
      rw [hl] at d0 r1
      rw [hlg] at d1 r2
      have hni := HP.out.hn i hlt
      have R1 := Lib.hid r1
      have R2 := Lib.hid r2
      clear hl hlg r1 r2
      go_wp2_with fail
      have hcopy := Blk.new wr tHeld #[.slice Ai (n i) ci, .slice Ag (n i + 70) cg, .int .i64 ((i : Int) + 1)]
      have hb1 := HB.out.alloc HB.out.size (.cells #[.slice Ai (n i) ci, .slice Ag (n i + 70) cg, .int .i64 ((i : Int) + 1)] tHeld)
      have q1 := own_below R1.out ((Below.refl wr.heap.size wr).alloc (Nat.le_refl _) (.cells #[.slice Ai (n i) ci, .slice Ag (n i + 70) cg, .int .i64 ((i : Int) + 1)] tHeld))
      have q2 := own_below R2.out ((Below.refl wr.heap.size wr).alloc (Nat.le_refl _) (.cells #[.slice Ai (n i) ci, .slice Ag (n i + 70) cg, .int .i64 ((i : Int) + 1)] tHeld))
      obtain ⟨W, E⟩ : ∃ W, W = wr.alloc (.cells #[.slice Ai (n i) ci, .slice Ag (n i + 70) cg, .int .i64 ((i : Int) + 1)] tHeld) := ⟨_, rfl⟩
      rw [← E] at hcopy hb1 q1 q2 ⊢
      clear E c1 d0 d1 d2 R1 R2 HG HB
      obtain ⟨ni, hnn⟩ : ∃ ni, ni = n i := ⟨_, rfl⟩
      obtain ⟨Nh, hNN⟩ : ∃ Nh, Nh = wr.heap.size := ⟨_, rfl⟩
      rw [← hNN] at hcopy ⊢
      rw [← hnn] at hcopy q1 q2 hni ⊢
      obtain ⟨mu, hmu⟩ : ∃ mu : Int, markU i = .int .u32 mu := ⟨_, rfl⟩
      have C0 := fun V => (is_limb i (by omega) V).mono fun e w' h => (⟨h.1, h.2.symm⟩ : e = .returned (.bool true) ∧ w' = V)
      have M1 := fun (V : World) (hV : Below W.heap.size W V) (k : Nat) (hk : k < ni) => mark_at (own_below q1 hV) hk
      have M2 := fun (V : World) (hV : Below W.heap.size W V) (k : Nat) (hk : k < ni + 70) => mark_at (own_below q2 hV) hk
      rw [hmu] at C0
      simp only [hmu] at M1 M2
      have HC := Lib.hid C0
      have H1 := Lib.hid M1
      have H2 := Lib.hid M2
      have HK := Lib.hid hcopy
      have HB1 := Lib.hid hb1
      clear C0 M1 M2 hcopy hb1 q1 q2 hnn hNN hmu
      go_loopw [5] (fun s wq => ∃ k : Nat, s = .int .i64 k ∧ k ≤ ni + 70 ∧ Hid (Below W.heap.size W wq)) (fun s _ => ni + 70 - (intOf s).toNat)
      case atStart => exact ⟨0, rfl, Nat.zero_le _, Below.refl _ _⟩
      case round =>
        obtain ⟨k, rfl, hk, HQ⟩ := hrel
        have hc := HK.out.below HQ.out HK.out.lt
        have e0 := hc.cell 0
        have e1 := hc.cell 1
        have e2 := hc.cell 2
        have lt1 := hc.lt
        simp at e0 e1 e2
        clear hc
        by_cases hlk : k < ni + 70
        · have p0 : (0 : Int) ≤ (k : Int) := by omega
          have p1 : (k : Int) < (ni : Int) + 70 := by omega
          obtain ⟨g, rfl, hgl, hcell⟩ := H2.out wr HQ.out k hlk
          by_cases hk2 : k < ni
          · have p2 : (k : Int) < (ni : Int) := by omega
            obtain ⟨g', rfl, hgl', hcell'⟩ := H1.out wr HQ.out k hk2
            go_wp2_with fail
            go_quiet ((go_at_call 129; exact Calls.quiet_of_same (HC.out _)))
            go_wp2_with fail
            go_roundw
            case rel => exact ⟨k + 1, by go_num, hlk, Lib.hid (below_drewN HQ.out _)⟩
            case measure => simp [intOf]; omega
          · have p2 : (ni : Int) ≤ (k : Int) := by omega
            go_wp2_with fail
            go_quiet ((go_at_call 129; exact Calls.quiet_of_same (HC.out _)))
            go_wp2_with fail
            go_roundw
            case rel => exact ⟨k + 1, by go_num, hlk, Lib.hid (below_drewN HQ.out _)⟩
            case measure => simp [intOf]; omega
        · obtain rfl : k = ni + 70 := by omega
          clear H1 H2 HC
          go_wp2_with fail
          go_roundw
          case rel => exact ⟨i + 1, by go_num, hlt, Lib.hid (belowTo HB1.out HQ.out)⟩
          case measure => simp [intOf]; omega
    · obtain rfl : i = m := by omega
      clear HG
      go_wp2_with fail
      go_ret
      exact ⟨rfl, HB.out⟩
end Go.Proofs.YtpcdiijmhllejaaGreatDoor
