/- Several texts in one: TextsW. -/
import Derived.Test.YtbdliabfdplohaaDoorBw20
import Derived.Test.YtbdliabfdplohaaDoorBw25
import Derived.Test.YtbdliabfdplohaaDoorBw18
import Derived.Test.YtbdliabfdplohaaDoorBw29
set_option maxRecDepth 100000
set_option maxHeartbeats 8000000
/- WholeTexts: the walk. (Written by wip/whole/gentextsw.py.) -/
namespace Go.Proofs.YtbdliabfdplohaaDoor
open Go.RowKit

theorem beyond_made (ns : List Nat) (b : Bool) (k g : Nat) (t : TypeId) (V : World) (hg : V.heap.size = g) (hk : ns.length = k) (hl : ns.length ≤ 1000) (hm : ∀ z ∈ ns, z ≤ 1152921504606846976) (hb : b = decide (1048576 < ns.sum)) :
    Calls Tryd.prog 5 #[.slice (some ⟨g, 0, none⟩) k k] (V.alloc (.cells (cellsI ns).toArray t)) fun e w' => e = .returned (.bool b) ∧ Below V.heap.size V w' := by
  subst hk hb hg
  have h := Blk.new V t (cellsI ns).toArray
  refine (beyond_any (some ⟨V.heap.size, 0, none⟩) ns.length ns hl hm _ (V.heap.size + 1) ?_).mono ?_
  · refine ⟨by rw [cellsI_length, Nat.mul_one], fun _ => ⟨_, rfl, Nat.lt_succ_self _, fun j u hu => ?_⟩⟩
    rw [show (⟨V.heap.size, 0, none⟩ : Addr).add j = ⟨V.heap.size, j, none⟩ by unfold Addr.add; split <;> simp_all, h.cell j, ← hu]
    simp
  · rintro e w' ⟨rfl, rfl⟩
    exact ⟨rfl, (Below.refl _ _).alloc (Nat.le_refl _) _⟩

end Go.Proofs.YtbdliabfdplohaaDoor
