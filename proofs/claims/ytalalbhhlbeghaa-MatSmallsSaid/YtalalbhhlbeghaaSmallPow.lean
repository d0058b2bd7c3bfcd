/- Power and Chain of package mat over the ring Small. (Written by wip/mat/genpow.py.) -/
import Derived.Test.YtalalbhhlbeghaaSmall
import Derived.Test.YtalalbhhlbeghaaShelf
import Derived.Test.YtalalbhhlbeghaaBits
import Derived.Deep.DeepCutAuto
namespace Go.Proofs.Ytalalbhhlbeghaa
open Go.RowKit

def smallInv (one m : M4) (n : Nat) (w : World) (k : Nat) (w' : World) : Prop :=
  ∃ r s : M4, Blk w' w.heap.size 38 #[.int .i8 r.a, .int .i8 r.b, .int .i8 r.c, .int .i8 r.d] ∧ Blk w' (w.heap.size + 1) 38 #[.int .i8 s.a, .int .i8 s.b, .int .i8 s.c, .int .i8 s.d] ∧ (∃ z, Blk w' (w.heap.size + 1 + 1) 38 z ∧ z.size = 4) ∧ Below w.heap.size w w' ∧
    M4.gpow smallR 65 one m n = M4.gpow smallR (65 - k) r (if k = 0 then s else M4.gmul smallR s s) (n / 2 ^ k)

theorem smallInv0 (one m : M4) (n : Nat) (w : World) : smallInv one m n w 0 (((w.alloc (.cells #[.int .i8 one.a, .int .i8 one.b, .int .i8 one.c, .int .i8 one.d] 38)).alloc (.cells #[.int .i8 m.a, .int .i8 m.b, .int .i8 m.c, .int .i8 m.d] 38)).alloc (.cells #[.int .i8 0, .int .i8 0, .int .i8 0, .int .i8 0] 38)) := by
  refine ⟨one, m, ((Blk.new _ _ _).alloc _).alloc _, ?_, ⟨#[.int .i8 0, .int .i8 0, .int .i8 0, .int .i8 0], ?_, rfl⟩, ?_, by simp⟩
  · have h := (Blk.new (w.alloc (.cells #[.int .i8 one.a, .int .i8 one.b, .int .i8 one.c, .int .i8 one.d] 38)) 38 #[.int .i8 m.a, .int .i8 m.b, .int .i8 m.c, .int .i8 m.d]).alloc (.cells #[.int .i8 0, .int .i8 0, .int .i8 0, .int .i8 0] 38)
    simpa using h
  · have h := Blk.new ((w.alloc (.cells #[.int .i8 one.a, .int .i8 one.b, .int .i8 one.c, .int .i8 one.d] 38)).alloc (.cells #[.int .i8 m.a, .int .i8 m.b, .int .i8 m.c, .int .i8 m.d] 38)) 38 #[.int .i8 0, .int .i8 0, .int .i8 0, .int .i8 0]
    simpa using h
  · exact (((Below.refl _ _).alloc (Nat.le_refl _) _).alloc (by simp) _).alloc (by simp; omega) _



theorem small_step {one m : M4} {n : Nat} {w w' : World} {k : Nat} {r s r' : M4} (hk : k < Lib.bitLen n)
    (hp : M4.gpow smallR 65 one m n = M4.gpow smallR (65 - k) r s (n / 2 ^ k)) (hr' : r' = if n / 2 ^ k % 2 = 1 then M4.gmul smallR s r else r)
    (hr : Blk w' w.heap.size 38 #[.int .i8 r'.a, .int .i8 r'.b, .int .i8 r'.c, .int .i8 r'.d]) (hs : Blk w' (w.heap.size + 1) 38 #[.int .i8 s.a, .int .i8 s.b, .int .i8 s.c, .int .i8 s.d]) (hz : ∃ z, Blk w' (w.heap.size + 1 + 1) 38 z ∧ z.size = 4) (hb : Below w.heap.size w w') :
    smallInv one m n w (k + 1) w' := by
  refine ⟨r', s, hr, hs, hz, hb, ?_⟩
  have h64 := bitLen_le64 n
  have hne := bitLen_more n k hk
  rw [hp, show 65 - k = (65 - (k + 1)) + 1 by omega, M4.gpow_more _ _ _ _ _ hne, if_neg (Nat.succ_ne_zero k), Nat.div_div_eq_div_mul, ← Nat.pow_succ, hr']

theorem small_stop {one m : M4} {n : Nat} {w w' : World} (hn : n ≤ 18446744073709551615) (h : smallInv one m n w (Lib.bitLen n) w') :
    Blk w' w.heap.size 38 #[.int .i8 (M4.gpow smallR 65 one m n).a, .int .i8 (M4.gpow smallR 65 one m n).b, .int .i8 (M4.gpow smallR 65 one m n).c, .int .i8 (M4.gpow smallR 65 one m n).d] ∧ (∃ z, Blk w' (w.heap.size + 1 + 1) 38 z ∧ z.size = 4) ∧ Below w.heap.size w w' := by
  obtain ⟨r, s, hr, hs, hz, hb, hp⟩ := h
  have h64 := bitLen_le64 n
  rw [bitLen_end n hn, show 65 - Lib.bitLen n = (64 - Lib.bitLen n) + 1 by omega, M4.gpow_stop] at hp
  rw [hp]
  exact ⟨hr, hz, hb⟩

set_option maxRecDepth 100000 in
set_option maxHeartbeats 1000000 in
theorem small_Power4 (one m : M4) (n : Nat) (hn : n ≤ 18446744073709551615) (w : World) :
    Calls Try.prog 18 #[smallV one, smallV m, .int .u64 n] w fun e w' => e = .returned (smallV (M4.gpow smallR 65 one m n)) ∧ Below w.heap.size w w' := by
  go_enter Try.func18, Try.ntmps18
  go_wp2_with fail
  refine (Try.bits_Len64 n _ (by omega) (by omega)).mono ?_; rintro e w1 ⟨rfl, rfl⟩
  rw [Int.toNat_natCast]
  go_wp2_with fail
  have hL : Lib.bitLen n ≤ 64 := bitLen_le64 n
  have I0 : smallInv one m n w 0 (((w.alloc (.cells #[.int .i8 one.a, .int .i8 one.b, .int .i8 one.c, .int .i8 one.d] 38)).alloc (.cells #[.int .i8 m.a, .int .i8 m.b, .int .i8 m.c, .int .i8 m.d] 38)).alloc (.cells #[.int .i8 0, .int .i8 0, .int .i8 0, .int .i8 0] 38)) := smallInv0 one m n w
  have HL := Lib.hid hL
  go_loopw [10] (fun i w' => ∃ k : Nat, i = .int .i64 k ∧ k ≤ Lib.bitLen n ∧ smallInv one m n w k w') (fun i _ => Lib.bitLen n - (intOf i).toNat)
  case atStart => exact ⟨0, rfl, Nat.zero_le _, I0⟩
  case round =>
    obtain ⟨k, rfl, hk, hinv⟩ := hrel
    clear I0
    by_cases hlt : k < Lib.bitLen n
    · obtain ⟨r, s, hr, hs, hz, hb, hp⟩ := hinv
      have hsz := hb.size
      have hk64 : k < 64 := by omega
      by_cases hbit : n / 2 ^ k % 2 = 1 <;> by_cases hk0 : k = 0
      · have HB := Lib.hid hbit
        have hbt := bit_one0 n hn (by subst hk0; simpa using hbit)
        clear hbit
        subst hk0
        have hp' := hp
        rw [if_pos rfl] at hp'
        have HP := Lib.hid hp'
        clear hp hp'
        have r0 := hr.cell 0
        have r1 := hr.cell 1
        have r2 := hr.cell 2
        have r3 := hr.cell 3
        have rf0 := hr.frozen 0
        have rf1 := hr.frozen 1
        have rf2 := hr.frozen 2
        have rf3 := hr.frozen 3
        simp at r0 r1 r2 r3
        have s0 := hs.cell 0
        have s1 := hs.cell 1
        have s2 := hs.cell 2
        have s3 := hs.cell 3
        have sf0 := hs.frozen 0
        have sf1 := hs.frozen 1
        have sf2 := hs.frozen 2
        have sf3 := hs.frozen 3
        simp at s0 s1 s2 s3
        go_wp2_with fail
        go_wp2_with fail
        refine (small_Mul4 s r _).mono ?_; rintro e w4 ⟨rfl, hb4⟩
        have hr4 := hr.below hb4 hr.lt
        have hs4 := hs.below hb4 hs.lt
        have hb' := belowTo hb hb4
        obtain ⟨z, hz1, hz2⟩ := hz
        have hz3 := hz1.below hb4 hz1.lt
        clear r0 r1 r2 r3 rf0 rf1 rf2 rf3 s0 s1 s2 s3 sf0 sf1 sf2 sf3 hr hs hz1 hb hb4
        have r0 := hr4.cell 0
        have r1 := hr4.cell 1
        have r2 := hr4.cell 2
        have r3 := hr4.cell 3
        have rf0 := hr4.frozen 0
        have rf1 := hr4.frozen 1
        have rf2 := hr4.frozen 2
        have rf3 := hr4.frozen 3
        simp at r0 r1 r2 r3
        go_wp2_with fail
        go_roundw
        case rel =>
          refine ⟨0 + 1, by go_num, hlt, small_step hlt HP.out (r' := M4.gmul smallR s r) (by rw [if_pos HB.out]) (hr4.store4 rfl _ _ _ _) (hs4.far4 (by omega) _ _ _ _) ⟨z, hz3.far4 (by omega) _ _ _ _, hz2⟩ (below4 hb' (Nat.le_refl _) _ _ _ _)⟩
        case measure => simp [intOf]; omega
      · have HB := Lib.hid hbit
        have hbt := bit_one n k hn hbit
        clear hbit
        have hk1 : 0 < k := by omega
        have hp' := hp
        rw [if_neg hk0] at hp'
        have HP := Lib.hid hp'
        clear hp hp' hk0
        have r0 := hr.cell 0
        have r1 := hr.cell 1
        have r2 := hr.cell 2
        have r3 := hr.cell 3
        have rf0 := hr.frozen 0
        have rf1 := hr.frozen 1
        have rf2 := hr.frozen 2
        have rf3 := hr.frozen 3
        simp at r0 r1 r2 r3
        have s0 := hs.cell 0
        have s1 := hs.cell 1
        have s2 := hs.cell 2
        have s3 := hs.cell 3
        have sf0 := hs.frozen 0
        have sf1 := hs.frozen 1
        have sf2 := hs.frozen 2
        have sf3 := hs.frozen 3
        simp at s0 s1 s2 s3
        go_wp2_with fail
        refine (small_Mul4 s s _).mono ?_; rintro e w2 ⟨rfl, hb2⟩
        have hr2 := hr.below hb2 hr.lt
        have hs2 := hs.below hb2 hs.lt
        have hb' := belowTo hb hb2
        obtain ⟨z, hz1, hz2⟩ := hz
        have hz3 := hz1.below hb2 hz1.lt
        clear r0 r1 r2 r3 rf0 rf1 rf2 rf3 s0 s1 s2 s3 sf0 sf1 sf2 sf3 hr hs hz1 hb hb2
        have s0 := hs2.cell 0
        have s1 := hs2.cell 1
        have s2 := hs2.cell 2
        have s3 := hs2.cell 3
        have sf0 := hs2.frozen 0
        have sf1 := hs2.frozen 1
        have sf2 := hs2.frozen 2
        have sf3 := hs2.frozen 3
        simp at s0 s1 s2 s3
        have r0 := hr2.cell 0
        have r1 := hr2.cell 1
        have r2 := hr2.cell 2
        have r3 := hr2.cell 3
        have rf0 := hr2.frozen 0
        have rf1 := hr2.frozen 1
        have rf2 := hr2.frozen 2
        have rf3 := hr2.frozen 3
        simp at r0 r1 r2 r3
        go_wp2_with fail
        obtain ⟨w3, E3⟩ : ∃ W, W = (((w2.setCell ⟨w.heap.size + 1, 0, none⟩ (.int .i8 (M4.gmul smallR s s).a)).setCell ⟨w.heap.size + 1, 1, none⟩ (.int .i8 (M4.gmul smallR s s).b)).setCell ⟨w.heap.size + 1, 2, none⟩ (.int .i8 (M4.gmul smallR s s).c)).setCell ⟨w.heap.size + 1, 3, none⟩ (.int .i8 (M4.gmul smallR s s).d) := ⟨_, rfl⟩
        have hr := hr2.far4 (g' := w.heap.size + 1) (by omega) (.int .i8 (M4.gmul smallR s s).a) (.int .i8 (M4.gmul smallR s s).b) (.int .i8 (M4.gmul smallR s s).c) (.int .i8 (M4.gmul smallR s s).d)
        have hz1 := hz3.far4 (g' := w.heap.size + 1) (by omega) (.int .i8 (M4.gmul smallR s s).a) (.int .i8 (M4.gmul smallR s s).b) (.int .i8 (M4.gmul smallR s s).c) (.int .i8 (M4.gmul smallR s s).d)
        have hs := hs2.store4 rfl (.int .i8 (M4.gmul smallR s s).a) (.int .i8 (M4.gmul smallR s s).b) (.int .i8 (M4.gmul smallR s s).c) (.int .i8 (M4.gmul smallR s s).d)
        have hb := below4 hb' (g := w.heap.size + 1) (by omega) (.int .i8 (M4.gmul smallR s s).a) (.int .i8 (M4.gmul smallR s s).b) (.int .i8 (M4.gmul smallR s s).c) (.int .i8 (M4.gmul smallR s s).d)
        rw [← E3] at hr hs hz1 hb ⊢
        clear E3 hr2 hs2 hz3 hb' s0 s1 s2 s3 sf0 sf1 sf2 sf3 r0 r1 r2 r3 rf0 rf1 rf2 rf3
        generalize M4.gmul smallR s s = s' at *
        have hz : ∃ z, Blk w3 (w.heap.size + 1 + 1) 38 z ∧ z.size = 4 := ⟨z, hz1, hz2⟩
        refine (small_Mul4 s' r _).mono ?_; rintro e w4 ⟨rfl, hb4⟩
        have hr4 := hr.below hb4 hr.lt
        have hs4 := hs.below hb4 hs.lt
        have hb' := belowTo hb hb4
        obtain ⟨z, hz1, hz2⟩ := hz
        have hz3 := hz1.below hb4 hz1.lt
        clear hr hs hz1 hb hb4
        have r0 := hr4.cell 0
        have r1 := hr4.cell 1
        have r2 := hr4.cell 2
        have r3 := hr4.cell 3
        have rf0 := hr4.frozen 0
        have rf1 := hr4.frozen 1
        have rf2 := hr4.frozen 2
        have rf3 := hr4.frozen 3
        simp at r0 r1 r2 r3
        go_wp2_with fail
        go_roundw
        case rel =>
          refine ⟨k + 1, by go_num, hlt, small_step hlt HP.out (r' := M4.gmul smallR s' r) (by rw [if_pos HB.out]) (hr4.store4 rfl _ _ _ _) (hs4.far4 (by omega) _ _ _ _) ⟨z, hz3.far4 (by omega) _ _ _ _, hz2⟩ (below4 hb' (Nat.le_refl _) _ _ _ _)⟩
        case measure => simp [intOf]; omega
      · have HB := Lib.hid hbit
        have hbt := bit_nought0 n hn (by subst hk0; simpa using hbit)
        clear hbit
        subst hk0
        have hp' := hp
        rw [if_pos rfl] at hp'
        have HP := Lib.hid hp'
        clear hp hp'
        have r0 := hr.cell 0
        have r1 := hr.cell 1
        have r2 := hr.cell 2
        have r3 := hr.cell 3
        have rf0 := hr.frozen 0
        have rf1 := hr.frozen 1
        have rf2 := hr.frozen 2
        have rf3 := hr.frozen 3
        simp at r0 r1 r2 r3
        have s0 := hs.cell 0
        have s1 := hs.cell 1
        have s2 := hs.cell 2
        have s3 := hs.cell 3
        have sf0 := hs.frozen 0
        have sf1 := hs.frozen 1
        have sf2 := hs.frozen 2
        have sf3 := hs.frozen 3
        simp at s0 s1 s2 s3
        go_wp2_with fail
        go_wp2_with fail
        go_roundw
        case rel =>
          exact ⟨0 + 1, by go_num, hlt, small_step hlt HP.out (r' := r) (by rw [if_neg HB.out]) hr hs hz hb⟩
        case measure => simp [intOf]; omega
      · have HB := Lib.hid hbit
        have hbt := bit_nought n k hn hbit
        clear hbit
        have hk1 : 0 < k := by omega
        have hp' := hp
        rw [if_neg hk0] at hp'
        have HP := Lib.hid hp'
        clear hp hp' hk0
        have r0 := hr.cell 0
        have r1 := hr.cell 1
        have r2 := hr.cell 2
        have r3 := hr.cell 3
        have rf0 := hr.frozen 0
        have rf1 := hr.frozen 1
        have rf2 := hr.frozen 2
        have rf3 := hr.frozen 3
        simp at r0 r1 r2 r3
        have s0 := hs.cell 0
        have s1 := hs.cell 1
        have s2 := hs.cell 2
        have s3 := hs.cell 3
        have sf0 := hs.frozen 0
        have sf1 := hs.frozen 1
        have sf2 := hs.frozen 2
        have sf3 := hs.frozen 3
        simp at s0 s1 s2 s3
        go_wp2_with fail
        refine (small_Mul4 s s _).mono ?_; rintro e w2 ⟨rfl, hb2⟩
        have hr2 := hr.below hb2 hr.lt
        have hs2 := hs.below hb2 hs.lt
        have hb' := belowTo hb hb2
        obtain ⟨z, hz1, hz2⟩ := hz
        have hz3 := hz1.below hb2 hz1.lt
        clear r0 r1 r2 r3 rf0 rf1 rf2 rf3 s0 s1 s2 s3 sf0 sf1 sf2 sf3 hr hs hz1 hb hb2
        have s0 := hs2.cell 0
        have s1 := hs2.cell 1
        have s2 := hs2.cell 2
        have s3 := hs2.cell 3
        have sf0 := hs2.frozen 0
        have sf1 := hs2.frozen 1
        have sf2 := hs2.frozen 2
        have sf3 := hs2.frozen 3
        simp at s0 s1 s2 s3
        have r0 := hr2.cell 0
        have r1 := hr2.cell 1
        have r2 := hr2.cell 2
        have r3 := hr2.cell 3
        have rf0 := hr2.frozen 0
        have rf1 := hr2.frozen 1
        have rf2 := hr2.frozen 2
        have rf3 := hr2.frozen 3
        simp at r0 r1 r2 r3
        go_wp2_with fail
        obtain ⟨w3, E3⟩ : ∃ W, W = (((w2.setCell ⟨w.heap.size + 1, 0, none⟩ (.int .i8 (M4.gmul smallR s s).a)).setCell ⟨w.heap.size + 1, 1, none⟩ (.int .i8 (M4.gmul smallR s s).b)).setCell ⟨w.heap.size + 1, 2, none⟩ (.int .i8 (M4.gmul smallR s s).c)).setCell ⟨w.heap.size + 1, 3, none⟩ (.int .i8 (M4.gmul smallR s s).d) := ⟨_, rfl⟩
        have hr := hr2.far4 (g' := w.heap.size + 1) (by omega) (.int .i8 (M4.gmul smallR s s).a) (.int .i8 (M4.gmul smallR s s).b) (.int .i8 (M4.gmul smallR s s).c) (.int .i8 (M4.gmul smallR s s).d)
        have hz1 := hz3.far4 (g' := w.heap.size + 1) (by omega) (.int .i8 (M4.gmul smallR s s).a) (.int .i8 (M4.gmul smallR s s).b) (.int .i8 (M4.gmul smallR s s).c) (.int .i8 (M4.gmul smallR s s).d)
        have hs := hs2.store4 rfl (.int .i8 (M4.gmul smallR s s).a) (.int .i8 (M4.gmul smallR s s).b) (.int .i8 (M4.gmul smallR s s).c) (.int .i8 (M4.gmul smallR s s).d)
        have hb := below4 hb' (g := w.heap.size + 1) (by omega) (.int .i8 (M4.gmul smallR s s).a) (.int .i8 (M4.gmul smallR s s).b) (.int .i8 (M4.gmul smallR s s).c) (.int .i8 (M4.gmul smallR s s).d)
        rw [← E3] at hr hs hz1 hb ⊢
        clear E3 hr2 hs2 hz3 hb' s0 s1 s2 s3 sf0 sf1 sf2 sf3 r0 r1 r2 r3 rf0 rf1 rf2 rf3
        generalize M4.gmul smallR s s = s' at *
        have hz : ∃ z, Blk w3 (w.heap.size + 1 + 1) 38 z ∧ z.size = 4 := ⟨z, hz1, hz2⟩
        go_roundw
        case rel =>
          exact ⟨k + 1, by go_num, hlt, small_step hlt HP.out (r' := r) (by rw [if_neg HB.out]) hr hs hz hb⟩
        case measure => simp [intOf]; omega
    · obtain rfl : k = Lib.bitLen n := by omega
      obtain ⟨hr, hz, hb⟩ := small_stop hn hinv
      obtain ⟨z, hz1, hz2⟩ := hz
      obtain ⟨z0, z1, z2, z3, rfl⟩ := array4 hz2
      clear hinv
      have r0 := hr.cell 0
      have r1 := hr.cell 1
      have r2 := hr.cell 2
      have r3 := hr.cell 3
      simp at r0 r1 r2 r3
      have y0 := hz1.cell 0
      have y1 := hz1.cell 1
      have y2 := hz1.cell 2
      have y3 := hz1.cell 3
      have f0 := hz1.frozen 0
      have f1 := hz1.frozen 1
      have f2 := hz1.frozen 2
      have f3 := hz1.frozen 3
      simp at y0 y1 y2 y3
      go_wp2
      have hq := (hz1.store4 rfl (.int .i8 (M4.gpow smallR 65 one m n).a) (.int .i8 (M4.gpow smallR 65 one m n).b) (.int .i8 (M4.gpow smallR 65 one m n).c) (.int .i8 (M4.gpow smallR 65 one m n).d))
      have k0 := hq.cell 0
      have k1 := hq.cell 1
      have k2 := hq.cell 2
      have k3 := hq.cell 3
      simp only [List.getElem?_toArray, List.getElem?_cons_zero, List.getElem?_cons_succ] at k0 k1 k2 k3
      exact bodyPost_ret (by simp [results, Try.results18, go_sem, k0, k1, k2, k3]) rfl ⟨rfl, below4 hb (by omega) _ _ _ _⟩

/-- The cells of a list of matrices. -/
def smallCells (l : List M4) : List Value := l.flatMap fun m => [.int .i8 m.a, .int .i8 m.b, .int .i8 m.c, .int .i8 m.d]

set_option maxRecDepth 100000 in
set_option maxHeartbeats 1000000 in
theorem small_Chain4 (one : M4) (A : Option Addr) (c : Nat) (l : List M4) (hl : l.length ≤ 9223372036854775807) (w : World) (hr : Reads w w.heap.size 4 A l.length (smallCells l)) :
    Calls Try.prog 43 #[smallV one, .slice A l.length c] w fun e w' => e = .returned (smallV (M4.gchain smallR one l)) ∧ Below w.heap.size w w' := by
  go_enter Try.func43, Try.ntmps43
  go_wp2_with fail
  have HR := Lib.hid hr
  clear hr
  go_loopw [9] (fun i w' => ∃ k : Nat, i = .int .i64 k ∧ k ≤ l.length ∧ Below w.heap.size w w' ∧ Blk w' w.heap.size 38 #[.int .i8 (M4.gchain smallR one (l.take k)).a, .int .i8 (M4.gchain smallR one (l.take k)).b, .int .i8 (M4.gchain smallR one (l.take k)).c, .int .i8 (M4.gchain smallR one (l.take k)).d] ∧ ∃ z, Blk w' (w.heap.size + 1) 38 z ∧ z.size = 4) (fun i _ => l.length - (intOf i).toNat)
  case atStart =>
    refine ⟨0, rfl, Nat.zero_le _, ((Below.refl _ _).alloc (Nat.le_refl _) _).alloc (by simp) _, (Blk.new _ _ _).alloc _, ⟨#[.int .i8 0, .int .i8 0, .int .i8 0, .int .i8 0], ?_, rfl⟩⟩
    have h := Blk.new (w.alloc (.cells #[.int .i8 one.a, .int .i8 one.b, .int .i8 one.c, .int .i8 one.d] 38)) 38 #[.int .i8 0, .int .i8 0, .int .i8 0, .int .i8 0]
    simpa using h
  case round =>
    obtain ⟨k, rfl, hk, hb, hr, hz⟩ := hrel
    by_cases hlt : k < l.length
    · obtain ⟨e0, e1, e2, e3⟩ := flat4 (fun m : M4 => Value.int .i8 m.a) (fun m => .int .i8 m.b) (fun m => .int .i8 m.c) (fun m => .int .i8 m.d) l k hlt
      obtain ⟨ad, rfl, had, c0, c1, c2, c3⟩ := (HR.out.below hb).row4 hlt e0 e1 e2 e3
      clear e0 e1 e2 e3 HR
      have hbl : (ad.add (k * 4)).block < w.heap.size := by rw [block_of_add]; exact had
      have hsz := hb.size
      have r0 := hr.cell 0
      have r1 := hr.cell 1
      have r2 := hr.cell 2
      have r3 := hr.cell 3
      simp at r0 r1 r2 r3
      have hlz := hr.lt
      go_wp2_with fail
      refine (small_Mul4 l[k] _ _).mono ?_; rintro e w4 ⟨rfl, hb4⟩
      obtain ⟨z, hz1, hz2⟩ := hz
      have hz4 := ((hz1.alloc _).below hb4 (hz1.alloc _).lt)
      have hr4 := ((hr.alloc _).below hb4 (hr.alloc _).lt)
      have hb' := (hb.alloc hb.size _).trans (hb4.mono (by simp; omega))
      rw [← M4.gchain_snoc _ _ _ _ hlt]
      have HK := Lib.hid hk
      clear c0 c1 c2 c3 r0 r1 r2 r3 hr hb hb4 hz1 hbl had hk
      have r0 := hr4.cell 0
      have r1 := hr4.cell 1
      have r2 := hr4.cell 2
      have r3 := hr4.cell 3
      have rf0 := hr4.frozen 0
      have rf1 := hr4.frozen 1
      have rf2 := hr4.frozen 2
      have rf3 := hr4.frozen 3
      simp at r0 r1 r2 r3
      go_wp2_with fail
      go_roundw
      case rel =>
        exact ⟨k + 1, by go_num, hlt, below4 hb' (Nat.le_refl _) _ _ _ _, hr4.store4 rfl _ _ _ _, z, hz4.far4 (by omega) _ _ _ _, hz2⟩
      case measure => simp [intOf]; omega
    · obtain rfl : k = l.length := by omega
      obtain ⟨z, hz1, hz2⟩ := hz
      obtain ⟨z0, z1, z2, z3, rfl⟩ := array4 hz2
      rw [List.take_length] at hr
      have r0 := hr.cell 0
      have r1 := hr.cell 1
      have r2 := hr.cell 2
      have r3 := hr.cell 3
      simp at r0 r1 r2 r3
      have y0 := hz1.cell 0
      have y1 := hz1.cell 1
      have y2 := hz1.cell 2
      have y3 := hz1.cell 3
      have f0 := hz1.frozen 0
      have f1 := hz1.frozen 1
      have f2 := hz1.frozen 2
      have f3 := hz1.frozen 3
      simp at y0 y1 y2 y3
      go_wp2
      have hq := (hz1.store4 rfl (.int .i8 (M4.gchain smallR one l).a) (.int .i8 (M4.gchain smallR one l).b) (.int .i8 (M4.gchain smallR one l).c) (.int .i8 (M4.gchain smallR one l).d))
      have k0 := hq.cell 0
      have k1 := hq.cell 1
      have k2 := hq.cell 2
      have k3 := hq.cell 3
      simp only [List.getElem?_toArray, List.getElem?_cons_zero, List.getElem?_cons_succ] at k0 k1 k2 k3
      exact bodyPost_ret (by simp [results, Try.results43, go_sem, k0, k1, k2, k3]) rfl ⟨rfl, below4 hb (by omega) _ _ _ _⟩
end Go.Proofs.Ytalalbhhlbeghaa
