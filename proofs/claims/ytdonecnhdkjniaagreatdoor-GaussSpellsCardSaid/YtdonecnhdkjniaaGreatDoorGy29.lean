/- Several texts in one: TwinG, BookFree, RowsG, ReckLaw, BookG. -/
import Derived.Test.YtdonecnhdkjniaaGreatDoorGy28
set_option maxRecDepth 100000
set_option maxHeartbeats 8000000
namespace Go.Proofs.YtdonecnhdkjniaaGreatDoor
open Go.RowKit


structure RowsFree (w : World) (lo : Nat) (vs : List Value) : Prop where
 row : ∀ j, j < vs.length -> ∃ n X, n <= 1073741824 /\ w.ownsRow lo tLimb 1 (vs.getD j Xn) n X
 apart : ∀ j k, j < k -> k < vs.length -> ∀ g, (vs.getD j Xn).ownBlock = some g -> (vs.getD k Xn).ownBlock ≠ some g
structure Far (b : Nat) (w V : World) : Prop where
 blk : ∀ g T cs, T ≠ tHeld -> g ≠ b -> Z2 w g T cs -> Z2 V g T cs


def blkAgg (v : Value) (g : Nat) : Prop := ∃ cs : Array Value, v = .agg cs /\ ∃ c ∈ cs.toList, c.ownBlock = some g
theorem beyond_big3 (A : Option Addr) (c : Nat) (zs : List Nat) (hz : zs.length <= 1000) (hm : ∀ z ∈ zs, z <= 9000000000000000000) (w : World) (B : Nat) (hr : ZL w B 1 A zs.length (cellsI zs)) :
  Calls Tryz.prog 5 #[.slice A zs.length c] w fun e w' => e = .returned (.bool (decide (1048576 < zs.sum))) /\ w = w' := by
 have HR := Hd hr
 have HM := Hd hm
 clear hr hm
 go_enter Tryz.func5, Tryz.ntmps5
 go_wp2_with fail
 go_loop [3, 4] (fun n i => ∃ k s : Nat, i = .int .i64 k /\ n = .int .i64 s /\ k <= zs.length /\ s = (zs.take k).sum /\ s <= 1048576) (fun _ i => zs.length - (intOf i).toNat)
 case atStart => exact ⟨0, 0, rfl, rfl, Nat.zero_le _, rfl, by omega⟩
 case round =>
  obtain ⟨k, s, rfl, rfl, hk, hs, hle⟩ := hrel
  have HS := Hd hs
  clear hs
  by_cases hlt : k < zs.length
  . obtain ⟨ad, rfl, -, hc⟩ := HR.out.2 (by omega)
    have hcell := hc k _ (cellsI_get hlt)
    have hz1 := HM.out zs[k] (List.getElem_mem hlt)
    have hs2 := sum_take_more zs k hlt
    rw [<- HS.out] at hs2
    have HS2 := Hd hs2
    clear hc hs2
    generalize zs[k] = z at *
    by_cases hbig : s + z <= 1048576
    . go_wp2_with fail
      go_round
      case rel => exact ⟨k + 1, s + z, by go_num, by go_num, hlt, HS2.out.symm, hbig⟩
      case measure => simp [intOf]; omega
    . have hd : decide (1048576 < zs.sum) = true := by
       have h1 := sum_take_le zs (k + 1)
       rw [HS2.out] at h1
       simp; omega
      have HD := Hd hd
      clear hd
      have hbig2 : 1048576 < (s : Int) + (z : Int) := by omega
      clear hbig
      go_wp2
      go_ret
      exact ⟨by rw [HD.out]; rfl, rfl⟩
  . have hd : decide (1048576 < zs.sum) = false := by
      have h1 := HS.out
      rw [List.take_of_length_le (by omega)] at h1
      simp; omega
    have HD := Hd hd
    clear hd
    go_wp2
    go_ret
    exact ⟨by rw [HD.out]; rfl, rfl⟩
theorem beyond_of3 (ns : List Nat) (b : Bool) (hl : ns.length <= 1000) (hm : ∀ z ∈ ns, z <= 9000000000000000000) (hb : b = decide (1048576 < ns.sum)) (u : Value) (V : World) (h : Xd ns u V) :
   Calls Tryz.prog 5 #[u] V fun e w' => e = .returned (.bool b) /\ Below V.heap.size V w' := by
 obtain ⟨g, t, rfl, h2⟩ := h.form
 subst hb
 refine (beyond_big3 (some ⟨g, 0, none⟩) ns.length ns hl hm V V.heap.size ?_).mono ?_
 . refine ⟨by rw [cellsI_length, Nat.mul_one], fun _ => ⟨_, rfl, h2.lt, fun j u hu => ?_⟩⟩
   rw [show (⟨g, 0, none⟩ : Addr).add j = ⟨g, j, none⟩ by unfold Addr.add; split <;> simp_all, h2.cell j, <- hu]
   simp
 . rintro e w' ⟨rfl, rfl⟩
   exact ⟨rfl, Below.refl _ _⟩


structure Kept (w : World) (b : Nat) (rs : List Value) : Prop where
 form : ∃ lims, Keep w b rs.length (fun j => rs.getD j Xn) lims
end Go.Proofs.YtdonecnhdkjniaaGreatDoor
