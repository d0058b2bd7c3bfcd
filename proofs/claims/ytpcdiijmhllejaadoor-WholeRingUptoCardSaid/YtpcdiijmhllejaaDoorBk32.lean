/- Several texts in one: SmallSum. -/
import Derived.Test.YtpcdiijmhllejaaDoorBk29
/- small: have these together no more limbs than one number may have? And how long sums and products get. -/
namespace Go.Proofs.YtpcdiijmhllejaaDoor
open Go.RowKit

def lenSum (l : List Num) : Nat := (l.map fun m => m.2.2.2.length + 1).sum
theorem lenSum_more (l : List Num) (i : Nat) (h : i < l.length) : lenSum (l.take (i + 1)) = lenSum (l.take i) + (l[i].2.2.2.length + 1) := by
  unfold lenSum
  rw [List.take_succ_eq_append_getElem h, List.map_append, List.sum_append]
  simp
theorem lenSum_le (l : List Num) (hs : ∀ m ∈ l, m.2.2.2.length ≤ 2048) : lenSum l ≤ l.length * 2049 := by
  unfold lenSum
  induction l with
  | nil => simp
  | cons a r ih =>
    have h1 := hs a (by simp)
    have h2 := ih fun m hm => hs m (List.mem_cons_of_mem _ hm)
    simp only [List.map_cons, List.sum_cons, List.length_cons]
    omega

set_option maxRecDepth 100000 in
set_option maxHeartbeats 2000000 in
theorem small_any (A : Option Addr) (c : Nat) (l : List Num) (hl : l.length ≤ 1000) (hs : ∀ m ∈ l, m.2.2.2.length ≤ 2048) (w : World) (h : Reads w w.heap.size 2 A l.length (cellsNum l)) (b : Bool) (hb : b = decide (lenSum l ≤ 2048)) :
    Calls Tryd.prog 19 #[.slice A l.length c] w fun e w' => e = .returned (.bool b) ∧ Below w.heap.size w w' := by
  have HR := Lib.hid h
  have HS := Lib.hid hs
  have HBE := Lib.hid hb
  clear h hs hb
  have H0 := Lib.hid (show (0 : Int) = ((lenSum (l.take 0) : Nat) : Int) from by simp [lenSum])
  go_enter Tryd.func19, Tryd.ntmps19
  go_wp2_with fail
  go_loopw [3, 4] (fun t s wr => ∃ (i : Nat) (n : Int), s = .int .i64 i ∧ t = .int .i64 n ∧ i ≤ l.length ∧ Hid (n = ((lenSum (l.take i) : Nat) : Int)) ∧ Hid (Below w.heap.size w wr)) (fun _ s _ => l.length - (intOf s).toNat)
  case atStart => exact ⟨0, 0, rfl, rfl, Nat.zero_le _, H0, Lib.hid (Below.refl _ _)⟩
  case round =>
    obtain ⟨i, n, rfl, rfl, hi, HN, HB⟩ := hrel
    clear H0
    by_cases hlt : i < l.length
    · have a0 : (0 : Int) ≤ (i : Int) := by omega
      have a1 : (i : Int) < (l.length : Int) := by omega
      obtain ⟨e0, e1⟩ := flat2 (fun m : Num => Value.bool m.1) (fun m : Num => Value.slice m.2.1 m.2.2.2.length m.2.2.1) l i hlt
      obtain ⟨ad, rfl, hbl, c0, c1⟩ := (HR.out.below HB.out).row2 hlt e0 e1
      have hn1 : 0 ≤ n := by rw [HN.out]; omega
      have hn2 : n ≤ 3000000 := by
        have h1 := lenSum_le (l.take i) fun m hm => HS.out m (List.mem_of_mem_take hm)
        rw [List.length_take, Nat.min_eq_left hi] at h1
        rw [HN.out]; omega
      have hk := HS.out l[i] (List.getElem_mem hlt)
      have HNX := Lib.hid (show n + (l[i].2.2.2.length : Int) + 1 = ((lenSum (l.take (i + 1)) : Nat) : Int) from by
        have h1 := lenSum_more l i hlt
        have h2 := HN.out
        omega)
      have HLT := Lib.hid hlt
      generalize l[i].1 = neg at *
      generalize l[i].2.1 = Am at *
      generalize l[i].2.2.1 = cm at *
      generalize l[i].2.2.2.length = k at *
      have hk2 : (k : Int) ≤ 2048 := by omega
      clear e0 e1 hbl
      go_wp2_with fail
      go_roundw
      case rel => exact ⟨i + 1, _, by go_num, rfl, HLT.out, HNX, HB⟩
      case measure => simp [intOf]; omega
    · obtain rfl : i = l.length := by omega
      have HE := Lib.hid (show b = decide (n ≤ 2048) from by
        rw [HBE.out]
        have h2 := HN.out
        rw [List.take_length] at h2
        exact decide_eq_decide.2 (by omega))
      by_cases h2 : n ≤ 2048
      · have h3 : decide (n ≤ 2048) = true := decide_eq_true h2
        go_wp2_with fail
        go_ret
        exact ⟨by rw [HE.out, h3]; rfl, HB.out⟩
      · have h3 : decide (n ≤ 2048) = false := decide_eq_false h2
        go_wp2_with fail
        go_ret
        exact ⟨by rw [HE.out, h3]; rfl, HB.out⟩
/-- How many limbs. -/
def lz (z : Int) : Nat := (natL z.natAbs).length
theorem small3 (x y z : Int) (A B C : Option Addr) (c d e : Nat) (V : World) (fx : Fit x) (fy : Fit y) (fz : Fit z) (t : TypeId) (b : Bool) (hb : b = decide (lz x + lz y + lz z + 3 ≤ 2048)) :
    Calls Tryd.prog 19 #[.slice (some ⟨V.heap.size, 0, none⟩) 3 3] (V.alloc (.cells #[.bool (decide (x < 0)), .slice A (natL x.natAbs).length c, .bool (decide (y < 0)), .slice B (natL y.natAbs).length d, .bool (decide (z < 0)), .slice C (natL z.natAbs).length e] t)) fun e w' => e = .returned (.bool b) ∧ Below V.heap.size V w' := by
  have hn := reads_new V t 2 3 (cellsNum [(decide (x < 0), A, c, natL x.natAbs), (decide (y < 0), B, d, natL y.natAbs), (decide (z < 0), C, e, natL z.natAbs)]) rfl
  refine (small_any (some ⟨V.heap.size, 0, none⟩) 3 [(decide (x < 0), A, c, natL x.natAbs), (decide (y < 0), B, d, natL y.natAbs), (decide (z < 0), C, e, natL z.natAbs)] (by simp) ?_ _ (hn.more (by simp)) b ?_).mono ?_
  · intro m hm
    simp at hm
    unfold Fit at fx fy fz
    rcases hm with rfl | rfl | rfl <;> assumption
  · rw [hb]
    refine decide_eq_decide.2 ?_
    simp only [lenSum, lz, List.map_cons, List.map_nil, List.sum_cons, List.sum_nil]
    omega
  · rintro e w' ⟨rfl, h⟩
    exact ⟨rfl, belowTo ((Below.refl _ _).alloc (Nat.le_refl _) _) h⟩
theorem lz_le {z : Int} {k : Nat} : lz z ≤ k ↔ z.natAbs < 4294967296 ^ k := natL_length_le
theorem lz_lt (z : Int) : z.natAbs < 4294967296 ^ lz z := lz_le.1 (Nat.le_refl _)
theorem lz_mul (x y : Int) : lz (x * y) ≤ lz x + lz y := by
  rw [lz_le, Int.natAbs_mul, Nat.pow_add]
  have h1 := lz_lt x
  have h2 := lz_lt y
  exact Nat.mul_lt_mul'' h1 h2
theorem lz_add (x y : Int) : lz (x + y) ≤ max (lz x) (lz y) + 1 := by
  rw [lz_le, Nat.pow_succ]
  have h1 : x.natAbs < 4294967296 ^ max (lz x) (lz y) := lz_le.1 (Nat.le_max_left _ _)
  have h2 : y.natAbs < 4294967296 ^ max (lz x) (lz y) := lz_le.1 (Nat.le_max_right _ _)
  have h3 := Int.natAbs_add_le x y
  generalize 4294967296 ^ max (lz x) (lz y) = p at *
  omega
theorem lz_sub (x y : Int) : lz (x - y) ≤ max (lz x) (lz y) + 1 := by
  have := lz_add x (-y)
  have e : lz (-y) = lz y := by unfold lz; rw [Int.natAbs_neg]
  rw [e] at this
  exact this
theorem fit_lz {z : Int} : Fit z ↔ lz z ≤ 2048 := Iff.rfl
end Go.Proofs.YtpcdiijmhllejaaDoor
