/- Contracts of the document's matrices: made, multiplied. -/
import Derived.Test.YtalalbhhlbeghaaRef08
namespace Go.Proofs.Ytalalbhhlbeghaa
open Go.RowKit
attribute [local go_sem] run_store_complex

theorem matInfoR : (Try.prog.info? 60).map (·.size) = some 12 := by kernel_rfl
theorem mixedOrders : Try.prog.follows .mixedOrders = true := by kernel_rfl

set_option maxRecDepth 100000 in
set_option maxHeartbeats 400000 in
theorem meant_any (k : Int) (m : M4) (w : World) :
    Calls Try.prog 28 #[.int .i64 k, .agg #[.int .i64 m.a, .int .i64 m.b, .int .i64 m.c, .int .i64 m.d]] w fun e w' => e = .returned (matR k m) ∧ Below w.heap.size w w' := by
  go_enter Try.func28, Try.ntmps28
  go_wp2_with fail
  have n0 := (Blk.new w 23 #[.int .i64 m.a, .int .i64 m.b, .int .i64 m.c, .int .i64 m.d])
  have r0 : Blk ((w.alloc (.cells #[.int .i64 m.a, .int .i64 m.b, .int .i64 m.c, .int .i64 m.d] 23)).alloc (.cells (matC 0 ⟨0, 0, 0, 0⟩) 60)) (w.heap.size + 1) 60 (matC 0 ⟨0, 0, 0, 0⟩) := by
    have h := Blk.new (w.alloc (.cells #[.int .i64 m.a, .int .i64 m.b, .int .i64 m.c, .int .i64 m.d] 23)) 60 (matC 0 ⟨0, 0, 0, 0⟩)
    rwa [World.size_alloc] at h
  have hB := (((Below.refl w.heap.size w).alloc (Nat.le_refl _) (.cells #[.int .i64 m.a, .int .i64 m.b, .int .i64 m.c, .int .i64 m.d] 23)).alloc (by simp) (.cells (matC 0 ⟨0, 0, 0, 0⟩) 60))
  refine wp_region_list [.val (.int .i64 k), .val (.pointer (some ⟨w.heap.size, 0, none⟩)), .val (.int .i64 m.a), .val (thV k m.a),
    .val (.int .i64 k), .val (.pointer (some ⟨w.heap.size, 1, none⟩)), .val (.int .i64 m.b), .val (thV k m.b),
    .val (.int .i64 k), .val (.pointer (some ⟨w.heap.size, 2, none⟩)), .val (.int .i64 m.c), .val (thV k m.c),
    .val (.int .i64 k), .val (.pointer (some ⟨w.heap.size, 3, none⟩)), .val (.int .i64 m.d), .val (thV k m.d), .val (matR k m), .old 4 (w.heap.size + 1) 60 16 (matC k m)]
    (w.heap.size + 1) _ (matC 0 ⟨0, 0, 0, 0⟩) _ mixedOrders (by simp) (Below.refl _ _) rfl (by kernel_rfl) (by kernel_rfl) (by kernel_rfl) (by kernel_rfl) (by kernel_rfl) rfl (by kernel_rfl) (by kernel_rfl) (by kernel_rfl) ?_ ?_ ?_ ?_ ?_
  · simp [ValOk, fill, pairs, isVal, clsOf]
    have HK := Lib.hid (fun V (hV : Below (w.heap.size + 1) ((w.alloc (.cells #[.int .i64 m.a, .int .i64 m.b, .int .i64 m.c, .int .i64 m.d] 23)).alloc (.cells (matC 0 ⟨0, 0, 0, 0⟩) 60)) V) => ((n0.alloc (.cells (matC 0 ⟨0, 0, 0, 0⟩) 60)).below hV (Nat.lt_succ_self _)))
    clear n0
    repeat' apply And.intro
    all_goals
      intro V hV _
      have n1 := HK.out V hV
      have c0 := n1.cell 0
      have c1 := n1.cell 1
      have c2 := n1.cell 2
      have c3 := n1.cell 3
      simp at c0 c1 c2 c3
      clear hV n1
      go_simp
      first | exact Below.refl _ _ | (refine (thing_any _ _ _).mono ?_; rintro e w' ⟨rfl, hb⟩; exact ⟨rfl, hb⟩)
  · simp only [NewOk]
  · simp only [PutOk]
  · refine And.intro (b := True) ?_ trivial
    exact ⟨Nat.le_refl _, by simp, r0, rfl, _, rfl, rfl, rfl, rfl, by kernel_rfl, rfl, by kernel_rfl, matInfoR, by kernel_rfl⟩
  · intro bs V hV _ _ _ ho
    have hb := (ho 17 _ _ _ _ _ rfl).cell
    clear ho n0 r0
    simp [fill, pairs, clsOf, Cls.of]
    go_wp2
    exact bodyPost_ret (by simp [results, Try.results28, go_sem, hb]) rfl ⟨rfl, hB.trans (hV.mono (Nat.le_succ _))⟩
end Go.Proofs.Ytalalbhhlbeghaa
