/- Several texts in one: Double, Has, HalfLaw, Halved. -/
import Derived.Test.YthlehkjcfhnplaaGreatDoorGc12
import Derived.Test.YthlehkjcfhnplaaGreatDoorGc11
import Derived.Test.YthlehkjcfhnplaaGreatDoorGc14
import Derived.Test.YthlehkjcfhnplaaGreatDoorGc02
import Derived.Test.YthlehkjcfhnplaaGreatDoorGc06
set_option maxRecDepth 100000
set_option maxHeartbeats 8000000
/- Double of package exact: times a power of two. -/
namespace Go.Proofs.YthlehkjcfhnplaaGreatDoor
open Go.RowKit

theorem Row.kept {B : Nat} {Ts : List TypeId} {w w' : World} {g : Nat} {zs : List Nat} (h : Row w g zs) (k : KeptV B Ts w w') (hT : 114 ∉ Ts) : Row w' g zs := ⟨k.blk h.blk hT⟩
structure UpAt (w : World) (u : Value) (L nv : Nat) : Prop where
  ex : ∃ g zs, u = .slice (some ⟨g, 0, none⟩) L L ∧ zs.length = L ∧ Limbs zs ∧ val zs = nv ∧ Row w g zs
theorem UpAt.kept {B : Nat} {Ts : List TypeId} {w w' : World} {u : Value} {L nv : Nat} (h : UpAt w u L nv) (k : KeptV B Ts w w') (hT : 114 ∉ Ts) : UpAt w' u L nv := by
  obtain ⟨g, zs, h1, h2, h3, h4, h5⟩ := h.ex
  exact ⟨g, zs, h1, h2, h3, h4, h5.kept k hT⟩
structure MadeAt (w : World) (base : Nat) (u : Value) (m : Nat) : Prop where
  ex : ∃ g, u = .slice (some ⟨g, 0, none⟩) m m ∧ base ≤ g ∧ Row w g (List.replicate m 0)
theorem MadeAt.kept {B : Nat} {Ts : List TypeId} {w w' : World} {base m : Nat} {u : Value} (h : MadeAt w base u m) (k : KeptV B Ts w w') (hT : 114 ∉ Ts) : MadeAt w' base u m := by
  obtain ⟨g, h1, h2, h3⟩ := h.ex
  exact ⟨g, h1, h2, h3.kept k hT⟩
theorem OwnL.kept {B : Nat} {Ts : List TypeId} {w w' : World} {base n L : Nat} {v : Value} (h : OwnL w base v n L) (k : KeptV B Ts w w') (hT : 114 ∉ Ts) : OwnL w' base v n L := by
  obtain ⟨A, c, zs, h1, h2, h3, h4, h5, h6, h7⟩ := h.form
  exact ⟨A, c, zs, h1, h2, h3, h4, h5, h6, k.own h7 hT⟩
/- slices.ContainsFunc of limbs: is one of them not nought? -/

/- A number divided by 2^n and rounded down: plain, no program in sight. -/

/- Halved of package exact: divided by 2^n and rounded down. -/

theorem Raw.drop {w : World} {ad : Addr} {c m : Nat} {xs : List Nat} (h : Raw w (some ad) c xs) (hm : m < xs.length) : Raw w (some (ad.add m)) (c - m) (xs.drop m) := by
  have h1 := h.cap
  have h2 := h.most
  refine ⟨limbs_drop h.limbs m, by rw [List.length_drop]; omega, by omega, ?_⟩
  have h3 := Reads.cut h.reads (k := m) (cap := c) (by omega) h1
  rw [if_neg (by omega), Nat.mul_one] at h3
  unfold ReadsU
  rw [List.length_drop]
  have e : (cellsU xs).drop m = cellsU (xs.drop m) := by simp [cellsU]
  rw [e] at h3
  exact h3
end Go.Proofs.YthlehkjcfhnplaaGreatDoor
