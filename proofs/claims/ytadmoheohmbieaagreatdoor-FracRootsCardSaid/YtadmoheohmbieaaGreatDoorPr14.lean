/- Several texts in one: RefQuo, RefDouble, Moves, Double. -/
import Derived.Test.YtadmoheohmbieaaGreatDoorPr12
import Derived.Test.YtadmoheohmbieaaGreatDoorPr13
import Derived.Test.YtadmoheohmbieaaGreatDoorPr08
/- Divide of the references. -/
namespace Go.Proofs.YtadmoheohmbieaaGreatDoor
open Go.RowKit

theorem ref_divide (A B : Option Addr) (c d : Nat) (xs ys : List Nat) (hcy : Canon ys) (hyl : ys ≠ []) (hlx : xs.length ≤ 536870000) (hly : ys.length ≤ 536870000) (w : World) (h : Raw w A c xs) (g : Raw w B d ys) :
    Calls Tryz.prog 231 #[.slice A xs.length c, .slice B ys.length d] w (RetNN w.heap.size w (val xs / val ys) (val xs % val ys)) := by
  have h0 : ys.length ≠ 0 := fun e => hyl (List.eq_nil_of_length_eq_zero e)
  rcases (by omega : ys.length = 1 ∨ 2 ≤ ys.length) with h1 | h1
  · exact ref_divide_one A B c d xs ys hcy h1 (by omega) w h g
  · exact ref_divide_many A B c d xs ys hcy h1 hlx hly w h g

set_option maxRecDepth 100000 in
set_option maxHeartbeats 2000000 in
theorem ref_Divide_z (n1 n2 nn : Bool) (HN : Hid (nn = (n1 != n2))) (A B : Option Addr) (c d : Nat) (xs ys : List Nat) (hcy : Canon ys) (hne : ys ≠ []) (hlx : xs.length ≤ 536870000) (hly : ys.length ≤ 536870000) (z1 z2 : Int) (HZ1 : Hid (z1 = ival nn (natL (val xs / val ys)))) (HZ2 : Hid (z2 = ival n1 (natL (val xs % val ys)))) (w : World) (h : Raw w A c xs) (g : Raw w B d ys) :
    Calls Tryz.prog 159 #[.agg #[.bool n1, .slice A xs.length c], .agg #[.bool n2, .slice B ys.length d]] w (RetBoth w.heap.size w z1 z2) := by
  have px := (((Pair.new w 24 (.bool n1) (.slice A xs.length c)).alloc (.cells #[.bool n2, .slice B ys.length d] 24)).alloc (.cells #[.bool false, .slice none 0 0] 24)).alloc (.cells #[.bool false, .slice none 0 0] 24)
  have py := ((Pair.new (w.alloc (.cells #[.bool n1, .slice A xs.length c] 24)) 24 (.bool n2) (.slice B ys.length d)).alloc (.cells #[.bool false, .slice none 0 0] 24)).alloc (.cells #[.bool false, .slice none 0 0] 24)
  have pq := (Pair.new ((w.alloc (.cells #[.bool n1, .slice A xs.length c] 24)).alloc (.cells #[.bool n2, .slice B ys.length d] 24)) 24 (.bool false) (.slice none 0 0)).alloc (.cells #[.bool false, .slice none 0 0] 24)
  have pr := Pair.new (((w.alloc (.cells #[.bool n1, .slice A xs.length c] 24)).alloc (.cells #[.bool n2, .slice B ys.length d] 24)).alloc (.cells #[.bool false, .slice none 0 0] 24)) 24 (.bool false) (.slice none 0 0)
  have rx := ((((h.alloc (.cells #[.bool n1, .slice A xs.length c] 24)).alloc (.cells #[.bool n2, .slice B ys.length d] 24)).alloc (.cells #[.bool false, .slice none 0 0] 24)).alloc (.cells #[.bool false, .slice none 0 0] 24))
  have ry := ((((g.alloc (.cells #[.bool n1, .slice A xs.length c] 24)).alloc (.cells #[.bool n2, .slice B ys.length d] 24)).alloc (.cells #[.bool false, .slice none 0 0] 24)).alloc (.cells #[.bool false, .slice none 0 0] 24))
  have b0 := ((((Below.refl w.heap.size w).alloc (Nat.le_refl _) (.cells #[.bool n1, .slice A xs.length c] 24)).alloc (by simp) (.cells #[.bool n2, .slice B ys.length d] 24)).alloc (by simp; omega) (.cells #[.bool false, .slice none 0 0] 24)).alloc (by simp; omega) (.cells #[.bool false, .slice none 0 0] 24)
  simp only [World.size_alloc] at py pq pr
  clear h g
  go_enter Tryz.func159, Tryz.ntmps159
  go_wp2_with fail
  obtain ⟨W0, E⟩ : ∃ W, W = ((((w.alloc (.cells #[.bool n1, .slice A xs.length c] 24)).alloc (.cells #[.bool n2, .slice B ys.length d] 24)).alloc (.cells #[.bool false, .slice none 0 0] 24)).alloc (.cells #[.bool false, .slice none 0 0] 24)) := ⟨_, rfl⟩
  rw [← E] at px py pq pr b0 rx ry ⊢
  have hsz : W0.heap.size = w.heap.size + 4 := by rw [E]; simp
  clear E
  obtain ⟨l1, x0, x1, -, -⟩ := px.facts
  obtain ⟨l2, y0, y1, -, -⟩ := py.facts
  refine (ref_divide A B c d xs ys hcy hne hlx hly W0 rx ry).mono ?_
  rintro e W ⟨u1, u2, rfl, hu1, hu2, hb⟩
  have hsW := hb.size
  have HPX := Lib.hid (fun (V : World) (hV : Below (w.heap.size + 2) W V) => (px.below hb).blk.below hV (Nat.lt_succ_of_lt (Nat.lt_succ_self _)))
  have HPY := Lib.hid (fun (V : World) (hV : Below (w.heap.size + 2) W V) => (py.below hb).blk.below hV (Nat.lt_succ_self _))
  have PQ := Lib.hid (pq.below hb)
  have PR := Lib.hid (pr.below hb)
  have HB := Lib.hid (belowTo b0 hb)
  have HU1 := Lib.hid (hu1.base (b' := w.heap.size) (by omega))
  have HU2 := Lib.hid (hu2.base (b' := w.heap.size) (by omega))
  have hsw : w.heap.size + 4 ≤ W.heap.size := by omega
  clear px py pq pr rx ry b0 l1 x0 x1 l2 y0 y1 hb hu1 hu2 hsz hsW
  go_wp2_with fail
  have C1 := Lib.hid (fun (V : World) (hK : KeptV (w.heap.size + 2) [24] W V) => show Calls Tryz.prog 66 #[.bool nn, u1] V (RetInt w.heap.size V z1) from by
    have := ref_signed_own nn u1 (val xs / val ys) _ w.heap.size V ((HU1.out.kept hK (by decide)).ownL (Nat.le_refl _))
    rw [HZ1.out]; unfold ival; rw [val_natL]; exact this)
  have C2 := Lib.hid (fun (V : World) (hK : KeptV (w.heap.size + 2) [24] W V) => show Calls Tryz.prog 66 #[.bool n1, u2] V (RetInt w.heap.size V z2) from by
    have := ref_signed_own n1 u2 (val xs % val ys) _ w.heap.size V ((HU2.out.kept hK (by decide)).ownL (Nat.le_refl _))
    rw [HZ2.out]; unfold ival; rw [val_natL]; exact this)
  clear HU1 HU2
  refine wp_region_free [.val (.pointer (some ⟨w.heap.size, 0, none⟩)) [], .val (.bool n1) [], .val (.pointer (some ⟨w.heap.size + 1, 0, none⟩)) [], .val (.bool n2) [], .val (.bool nn) [], .val u1 [], .any false (fun u V => IntOwn V w.heap.size u z1) [],
      .val (.pointer (some ⟨w.heap.size, 0, none⟩)) [], .val (.bool n1) [], .val u2 [], .any false (fun u V => IntOwn V w.heap.size u z2) [],
      .old (w.heap.size + 2) 24 #[.bool false, .slice none 0 0] 0 2 6 [], .old (w.heap.size + 3) 24 #[.bool false, .slice none 0 0] 0 2 10 []]
    (w.heap.size + 2) W [24] (fun _ _ => False) _ mixedOrders2 (by omega) (Below.refl _ _) (KeptV.refl _ _ _) rfl (by kernel_rfl) (by kernel_rfl) (by kernel_rfl) (by kernel_rfl) (by kernel_rfl) (by kernel_rfl) (by kernel_rfl) (by kernel_rfl) rfl (by simp [oldsF]) ?_ ?_ ?_ ?_
  · simp only [StableF, and_true]
    exact ⟨fun u V V' h k => h.kept k (by decide), fun u V V' h k => h.kept k (by decide)⟩
  · simp only [OldsF, and_true]
    exact ⟨⟨by omega, by omega, PQ.out.blk, by simp⟩, by omega, by omega, PR.out.blk, by simp⟩
  · simp [StepsF, DepF, freeAct, fill, pairs]
    repeat' (first | apply And.intro | (intro (u : Value)))
    all_goals try exact ⟨_, _, _, rfl, rfl, rfl, rfl, intInfo⟩
    all_goals first
    | (intro V hV hK
       have a0 := (HPX.out V hV).cell 0
       have b0 := (HPY.out V hV).cell 0
       simp at a0 b0
       clear hV
       go_simp
       first
       | exact Below.refl _ _
       | exact ⟨by rw [HN.out]; cases n1 <;> cases n2 <;> rfl, Below.refl _ _⟩
       | ((with_reducible refine (C1.out V hK).mono ?_); rintro e w' ⟨v, rfl, hv, hb⟩; exact ⟨hv, hb⟩)
       | ((with_reducible refine (C2.out V hK).mono ?_); rintro e w' ⟨v, rfl, hv, hb⟩; exact ⟨hv, hb⟩))
    | exact fun _ _ _ (h : IntOwn _ _ _ _) => h.cells
  · simp [EndF, FactsF, freeAct, fill, pairs]
    intro u v V hV hK h1 h2 bq br _ _ _
    obtain ⟨A1, c1, rfl, -⟩ := h1.form
    obtain ⟨A2, c2, rfl, -⟩ := h2.form
    simp [setAll, Value.cells] at bq br
    have k0 := bq.cell 0
    have k1 := bq.cell 1
    have k2 := br.cell 0
    have k3 := br.cell 1
    simp at k0 k1 k2 k3
    have H1 := Lib.hid h1
    have H2 := Lib.hid h2
    have HBV := Lib.hid (HB.out.trans (hV.mono (by omega)))
    clear h1 h2 hV hK
    go_wp2_with fail
    exact bodyPost_ret (by simp [results, Tryz.results159, go_sem, k0, k1, k2, k3]) rfl ⟨_, _, rfl, H1.out, H2.out, HBV.out⟩
theorem ref_Divide (n1 n2 : Bool) (A B : Option Addr) (c d : Nat) (xs ys : List Nat) (hcy : Canon ys) (hne : ys ≠ []) (hlx : xs.length ≤ 536870000) (hly : ys.length ≤ 536870000) (w : World) (h : Raw w A c xs) (g : Raw w B d ys) :
    Calls Tryz.prog 159 #[.agg #[.bool n1, .slice A xs.length c], .agg #[.bool n2, .slice B ys.length d]] w (RetBoth w.heap.size w ((ival n1 xs).tdiv (ival n2 ys)) ((ival n1 xs).tmod (ival n2 ys))) :=
  ref_Divide_z n1 n2 _ (Lib.hid rfl) A B c d xs ys hcy hne hlx hly _ _ (Lib.hid (quo_val n1 n2 xs ys).1.symm) (Lib.hid (quo_val n1 n2 xs ys).2.symm) w h g
end Go.Proofs.YtadmoheohmbieaaGreatDoor

/- Double of the references: times a power of two. -/
namespace Go.Proofs.YtadmoheohmbieaaGreatDoor
open Go.RowKit

theorem ival_mul (n1 : Bool) (xs : List Nat) (m : Nat) : ival n1 xs * (m : Int) = if n1 then -((val xs * m : Nat) : Int) else ((val xs * m : Nat) : Int) := by
  unfold ival
  cases n1 <;> simp [Int.neg_mul]

set_option maxRecDepth 100000 in
set_option maxHeartbeats 2000000 in
theorem ref_Double_z (n1 : Bool) (A : Option Addr) (c n : Nat) (xs : List Nat) (hne : xs ≠ []) (hn : n ≤ 1048576) (hlx : xs.length ≤ 1048576) (z : Int) (HZ : Hid (z = if n1 then -((val xs * 2 ^ n : Nat) : Int) else ((val xs * 2 ^ n : Nat) : Int))) (w : World) (h : Raw w A c xs) :
    Calls Tryz.prog 209 #[.agg #[.bool n1, .slice A xs.length c], .int .i64 n] w (RetInt w.heap.size w z) := by
  have px := (Pair.new w 24 (.bool n1) (.slice A xs.length c)).alloc (.cells #[.bool false, .slice none 0 0] 24)
  have pr := Pair.new (w.alloc (.cells #[.bool n1, .slice A xs.length c] 24)) 24 (.bool false) (.slice none 0 0)
  have rx := ((h.alloc (.cells #[.bool n1, .slice A xs.length c] 24)).alloc (.cells #[.bool false, .slice none 0 0] 24))
  have b0 := ((Below.refl w.heap.size w).alloc (Nat.le_refl _) (.cells #[.bool n1, .slice A xs.length c] 24)).alloc (by simp) (.cells #[.bool false, .slice none 0 0] 24)
  simp only [World.size_alloc] at pr
  have hlen : ((xs.length : Int) == 0) = false := by
    have : xs.length ≠ 0 := fun e => hne (List.eq_nil_of_length_eq_zero e)
    simp; omega
  have HL := Lib.hid h.limbs
  have hn0 : (0 : Int) ≤ (n : Int) := by omega
  have hn1 : (n : Int) ≤ 1048576 := by omega
  obtain ⟨m, hm⟩ : ∃ m, m = n / 32 := ⟨_, rfl⟩
  obtain ⟨r, hr⟩ : ∃ r, r = n % 32 := ⟨_, rfl⟩
  have hmi : (n : Int) / 32 = (m : Int) := by omega
  have hri : (n : Int) % 32 = (r : Int) := by omega
  have hm2 : m ≤ 32768 := by omega
  have hr2 : r ≤ 31 := by omega
  have HNM := Lib.hid (show n = 32 * m + r by omega)
  obtain ⟨i0, hi, hz0, hz1, hz2⟩ := info_parts limbInfo
  have hmk : ∀ W : World, (Instr.makeSlice 22 (.int .i64 (m : Int)) (.int .i64 (m : Int))).run Tryz.prog W = .ok (.slice (some ⟨W.heap.size, 0, none⟩) m m) (W.alloc (.cells (madeCells #[.int .u32 0] m) 89)) := fun W => by
    have h := run_make_rowN (P := Tryz.prog) 22 89 i0 _ Tryz.underlying22 hi hz0 .i64 .i64 m m (by omega) (by rw [hz2]; omega) (by omega) W
    rw [hz1, Nat.mul_one] at h
    exact h
  clear h hne hm hr
  go_enter Tryz.func209, Tryz.ntmps209
  have hown0 := (Row.made ((w.alloc (.cells #[.bool n1, .slice A xs.length c] 24)).alloc (.cells #[.bool false, .slice none 0 0] 24)) m).own (base := w.heap.size + 2) (by simp) (n := m) (by simp) (by simp; omega)
  rw [List.length_replicate, List.take_of_length_le (by simp)] at hown0
  simp only [World.size_alloc] at hown0
  have px2 := px.alloc (.cells (madeCells #[.int .u32 0] m) 89)
  have pr2 := pr.alloc (.cells (madeCells #[.int .u32 0] m) 89)
  have rx2 := rx.alloc (.cells (madeCells #[.int .u32 0] m) 89)
  have b2 := b0.alloc (by simp; omega) (.cells (madeCells #[.int .u32 0] m) 89)
  have HOW := Lib.hid hown0
  have PX := Lib.hid px2
  have PR := Lib.hid pr2
  have RX := Lib.hid rx2
  have B2 := Lib.hid b2
  clear px pr rx b0 hown0 px2 pr2 rx2 b2
  go_wp2_with (at_builtin; refine wpList_append_any _ rfl (.tmp 16) (.tmp 18) _ rfl (w.heap.size + 2) 89 i0 _ 1 4 Tryz.underlying22 hi hz0 hz1 hz2 rfl (by omega) (.slice (some ⟨w.heap.size + 2, 0, none⟩) m m) m _ rfl HOW.out _ A xs.length c (cellsU xs) rfl RX.out.reads (cellsU_one _) (by unfold maxLen; omega) (by omega) (by simp) ?_; intro v1 w1 ho1 hg1 hat1)
  have e2 : cellsU (List.replicate m 0) ++ cellsU xs = cellsU (List.replicate m 0 ++ xs) := by simp [cellsU]
  rw [e2] at ho1
  have hlen1 : (List.replicate m 0 ++ xs).length = m + xs.length := by simp
  rw [← hlen1] at ho1
  have hl1 : Limbs (List.replicate m 0 ++ xs) := limbs_append.2 ⟨limbs_noughts _, HL.out⟩
  obtain ⟨A1, c1, rfl, f1, f2, f3⟩ := (OwnX.of_own hl1 ho1).form
  have hraw1 : OwnX w1 (w.heap.size + 2) (.slice A1 (List.replicate m 0 ++ xs).length c1) (List.replicate m 0 ++ xs) := ⟨hl1, A1, c1, rfl, f1, f2, f3⟩
  have hval1 : val (List.replicate m 0 ++ xs) * 2 ^ r = val xs * 2 ^ n := by
    rw [val_append, val_noughts, List.length_replicate, HNM.out, Nat.pow_add, Nat.pow_mul]
    rw [show (2 : Nat) ^ 32 = 4294967296 by decide]
    grind
  have px1 := PX.out.grown hg1 (by simp [Value.ownBlock])
  have pr1 := PR.out.grown hg1 (by simp [Value.ownBlock])
  have bl1 := B2.out.grown hg1 (by simp; omega) (fun k hk => by simp [Value.ownBlock] at hk; omega)
  have PX1 := Lib.hid px1
  have PR1 := Lib.hid pr1
  have RW1 := Lib.hid hraw1
  have B1 := Lib.hid bl1
  have HV1 := Lib.hid hval1
  have hll : (List.replicate m 0 ++ xs).length ≤ 1200000 := by rw [hlen1]; omega
  have hs1 : w.heap.size + 2 ≤ w1.heap.size := by have := hg1.size; simp at this; omega
  generalize hLL : List.replicate m 0 ++ xs = LL at *
  clear ho1 hg1 hat1 e2 hl1 f1 f2 f3 hraw1 hval1 px1 pr1 bl1 HOW PX PR RX B2 hLL hlen1
  go_loop [6, 7] (fun v6 v7 => ∃ k f : Nat, v6 = .int .u32 f ∧ v7 = .int .i64 k ∧ k ≤ r ∧ f < 4294967296 ∧ Hid (f = 2 ^ k)) (fun _ v7 => r - (intOf v7).toNat)
  case atStart => exact ⟨0, 1, rfl, rfl, Nat.zero_le _, by omega, Lib.hid rfl⟩
  case round =>
    obtain ⟨k, f, rfl, rfl, hk, hf, HF⟩ := hrel
    by_cases hkr : k < r
    · have h2f : 2 * f < 4294967296 := by
        have e : 2 * f = 2 ^ (k + 1) := by rw [HF.out, Nat.pow_succ, Nat.mul_comm]
        rw [e]
        exact Nat.lt_of_le_of_lt (Nat.pow_le_pow_right (by omega) (show k + 1 ≤ 31 by omega)) (by decide)
      have hki : (k : Int) < (r : Int) := by omega
      have h2i : (2 * (f : Int)) % 4294967296 = ((2 * f : Nat) : Int) := by omega
      have HF2 := Lib.hid (show 2 * f = 2 ^ (k + 1) by rw [HF.out, Nat.pow_succ, Nat.mul_comm])
      clear HF
      go_wp2_with fail
      go_round
      case rel => exact ⟨k + 1, 2 * f, by first | rfl | go_num, by go_num, hkr, h2f, HF2⟩
      case measure => simp [intOf]; omega
    · obtain rfl : k = r := by omega
      have hge : (k : Int) ≤ (k : Int) := Int.le_refl _
      go_wp2_with fail
      have C1 := Lib.hid (fun (V : World) (hK : KeptV (w.heap.size + 1) [24] w1 V) => show Calls Tryz.prog 247 #[.slice A1 LL.length c1, .int .u32 f] V (RetN V.heap.size V (val xs * 2 ^ n)) from by
        have := ref_times A1 c1 f LL hf (Nat.le_trans hll (by omega)) V (RW1.out.kept hK (by decide)).raw
        rw [HF.out, HV1.out] at this
        rw [← HF.out] at this
        exact this)
      have C2 := Lib.hid (fun (V : World) (u : Value) (hu : OwnN V w.heap.size u (val xs * 2 ^ n)) => show Calls Tryz.prog 66 #[.bool n1, u] V (RetInt w.heap.size V z) from by
        have := ref_signed_own n1 u _ _ w.heap.size V (hu.ownL (Nat.le_refl _))
        rw [HZ.out]; exact this)
      have HPX := Lib.hid (fun (V : World) (hV : Below (w.heap.size + 1) w1 V) => PX1.out.blk.below hV (Nat.lt_succ_self _))
      refine wp_region_free [.val (.pointer (some ⟨w.heap.size, 0, none⟩)) [], .val (.bool n1) [], .val (.slice A1 LL.length c1) [], .val (.int .u32 (f : Int)) [], .any false (fun u V => OwnN V w.heap.size u (val xs * 2 ^ n)) [], .any false (fun u V => IntOwn V w.heap.size u z) [4],
          .old (w.heap.size + 1) 24 #[.bool false, .slice none 0 0] 0 2 5 []]
        (w.heap.size + 1) w1 [24] (fun _ _ => False) _ mixedOrders2 (by omega) (Below.refl _ _) (KeptV.refl _ _ _) rfl (by kernel_rfl) (by kernel_rfl) (by kernel_rfl) (by kernel_rfl) (by kernel_rfl) (by kernel_rfl) (by kernel_rfl) (by kernel_rfl) rfl (by simp [oldsF]) ?_ ?_ ?_ ?_
      · simp only [StableF, and_true]
        exact ⟨fun u V V' h k => h.kept k (by decide), fun u V V' h k => h.kept k (by decide)⟩
      · simp only [OldsF, and_true]
        exact ⟨by omega, by omega, PR1.out.blk, by simp⟩
      · simp [StepsF, DepF, freeAct, fill, pairs]
        repeat' (first | apply And.intro | (intro (u : Value)))
        all_goals try exact ⟨_, _, _, rfl, rfl, rfl, rfl, intInfo⟩
        all_goals first
        | (intro V hV hK
           have a0 := (HPX.out V hV).cell 0
           simp at a0
           have hs2 := hK.size
           go_simp
           first
           | exact Below.refl _ _
           | ((with_reducible refine (C1.out V hK).mono ?_); rintro e w' ⟨v, rfl, hv, hb⟩; exact ⟨hv.base (by omega), hb⟩))
        | (intro V hV hK hu
           go_simp
           (with_reducible refine (C2.out V _ hu).mono ?_)
           rintro e w' ⟨v, rfl, hv, hb⟩
           exact ⟨hv, hb⟩)
        | exact fun _ _ _ (h : IntOwn _ _ _ _) => h.cells
      · simp [EndF, FactsF, freeAct, fill, pairs]
        intro u v V hV hK h1 h2 bq _ _ _
        obtain ⟨A2, c2, rfl, -⟩ := h2.form
        simp [setAll, Value.cells] at bq
        have k0 := bq.cell 0
        have k1 := bq.cell 1
        simp at k0 k1
        have H2 := Lib.hid h2
        have HBV := Lib.hid (B1.out.trans (hV.mono (by omega)))
        clear h1 h2 hV hK
        go_wp2_with fail
        exact bodyPost_ret (by simp [results, Tryz.results209, go_sem, k0, k1]) rfl ⟨_, rfl, H2.out, HBV.out⟩
end Go.Proofs.YtadmoheohmbieaaGreatDoor

/- An append that does not fit moves the row. -/
namespace Go.Proofs.YtadmoheohmbieaaGreatDoor
open Go.RowKit
section
variable {P : Program} (w : World)
/-- An append that does not fit: it moves, and the elder block stays. -/
theorem run_append_moves (base : Nat) (t ty e : TypeId) (i : TypeInfo) (z : Value) (bytes : Nat) (ht : P.underlying t = some (.slice e)) (hi : P.info? e = some i) (hz : i.zero = some z)
    (hsize : i.size = 1) (hby : i.bytes = bytes) (hzs : z.cells.size = 1) (g n cap : Nat) (xs : List Value) (hown : w.ownsRow base e 1 (.slice (some ⟨g, 0, none⟩) n cap) n xs)
    (a : Addr) (m c : Nat) (news : List Value) (hlen : news.length = m) (hnews : ∀ j u, news[j]? = some u → w.cell? (a.add j) = some u) (h1 : ∀ u ∈ news, u.oneCell' = true)
    (hroom : ¬ n + m ≤ cap) (h63 : n + m ≤ maxLen) (hbytes : (n + m) * bytes ≤ 140737488355328) (hbase : base ≤ w.heap.size) :
    ∃ v' w', (Builtin.append_ #[t, t] ty #[.slice (some ⟨g, 0, none⟩) n cap, .slice (some a) m c]).run P w = .ok v' w' ∧ w'.ownsRow base e 1 v' (n + m) (xs ++ news) ∧ Below w.heap.size w w' := by
  obtain ⟨v', w', hrun, how, -, -, -⟩ := run_append_own_at (P := P) w base t ty e i z 1 bytes ht hi hz hsize hby hzs (by omega) _ n xs hown a m c news (by omega) hnews h1 h63 hbytes hbase
  refine ⟨v', w', hrun, how, ?_⟩
  have hsmall : n + m ≤ 9223372036854775807 := by simp only [maxLen] at h63; omega
  have holds : ∀ j x, xs[j]? = some x → w.cell? ((⟨g, 0, none⟩ : Addr).add j) = some x := hown.cells (g := g) rfl
  have hr := run_append_grow (P := P) w t ty e i z ht hi hz ⟨g, 0, none⟩ n cap xs (by rw [hsize]; exact hown.1) holds a m c news (by simp [hsize, hlen]) hnews (by omega) (by omega) (by rw [hby]; exact growslice_fits (by omega) hbytes)
  rw [hrun] at hr
  injection hr with e1 e2
  subst e1 e2
  exact (Below.refl _ _).drew.alloc (by simp) _
theorem wp_append_moves {o : Oper} {a : Act} {K : Act → World → Prop} {Q : Exit → Act → World → Prop} (s x : Operand) (t : TypeId)
    (ho : o.op = .call { callee := .builtin .append, args := #[s, x], argTypes := #[t, t] })
    (base : Nat) (e : TypeId) (i : TypeInfo) (z : Value) (bytes : Nat) (ht : P.underlying t = some (.slice e)) (hi : P.info? e = some i) (hz : i.zero = some z)
    (hsize : i.size = 1) (hby : i.bytes = bytes) (hzs : z.cells.size = 1) (g n cap : Nat) (xs : List Value) (hs : a.eval s = .slice (some ⟨g, 0, none⟩) n cap) (hown : w.ownsRow base e 1 (.slice (some ⟨g, 0, none⟩) n cap) n xs)
    (ad : Addr) (m c : Nat) (news : List Value) (hx : a.eval x = .slice (some ad) m c) (hlen : news.length = m) (hnews : ∀ j u, news[j]? = some u → w.cell? (ad.add j) = some u) (h1 : ∀ u ∈ news, u.oneCell' = true)
    (hroom : ¬ n + m ≤ cap) (h63 : n + m ≤ maxLen) (hbytes : (n + m) * bytes ≤ 140737488355328) (hbase : base ≤ w.heap.size)
    (h : ∀ v' w', w'.ownsRow base e 1 v' (n + m) (xs ++ news) → Below w.heap.size w w' → K (a.put o.dst v') w') : o.wp P a w K Q := by
  obtain ⟨v', w', hrun, h2, h3⟩ := run_append_moves (P := P) w base t o.type e i z bytes ht hi hz hsize hby hzs g n cap xs hown ad m c news hlen hnews h1 hroom h63 hbytes hbase
  unfold Oper.wp execOp
  simp only [ho, resolve, invoke, builtin, Sem.run_bind, Sem.run_pure, Result.andThen_ok, List.map_toArray, List.map_cons, List.map_nil, hs, hx, hrun]
  exact h v' w' h2 h3
end
end Go.Proofs.YtadmoheohmbieaaGreatDoor

/- Double of package exact: times a power of two. -/
namespace Go.Proofs.YtadmoheohmbieaaGreatDoor
open Go.RowKit

theorem Row.kept {B : Nat} {Ts : List TypeId} {w w' : World} {g : Nat} {zs : List Nat} (h : Row w g zs) (k : KeptV B Ts w w') (hT : 89 ∉ Ts) : Row w' g zs := ⟨k.blk h.blk hT⟩
/-- Limbs just made by exact.up. -/
structure UpAt (w : World) (u : Value) (L nv : Nat) : Prop where
  ex : ∃ g zs, u = .slice (some ⟨g, 0, none⟩) L L ∧ zs.length = L ∧ Limbs zs ∧ val zs = nv ∧ Row w g zs
theorem UpAt.kept {B : Nat} {Ts : List TypeId} {w w' : World} {u : Value} {L nv : Nat} (h : UpAt w u L nv) (k : KeptV B Ts w w') (hT : 89 ∉ Ts) : UpAt w' u L nv := by
  obtain ⟨g, zs, h1, h2, h3, h4, h5⟩ := h.ex
  exact ⟨g, zs, h1, h2, h3, h4, h5.kept k hT⟩
/-- A row of noughts just made. -/
structure MadeAt (w : World) (base : Nat) (u : Value) (m : Nat) : Prop where
  ex : ∃ g, u = .slice (some ⟨g, 0, none⟩) m m ∧ base ≤ g ∧ Row w g (List.replicate m 0)
theorem MadeAt.kept {B : Nat} {Ts : List TypeId} {w w' : World} {base m : Nat} {u : Value} (h : MadeAt w base u m) (k : KeptV B Ts w w') (hT : 89 ∉ Ts) : MadeAt w' base u m := by
  obtain ⟨g, h1, h2, h3⟩ := h.ex
  exact ⟨g, h1, h2, h3.kept k hT⟩
theorem OwnL.kept {B : Nat} {Ts : List TypeId} {w w' : World} {base n L : Nat} {v : Value} (h : OwnL w base v n L) (k : KeptV B Ts w w') (hT : 89 ∉ Ts) : OwnL w' base v n L := by
  obtain ⟨A, c, zs, h1, h2, h3, h4, h5, h6, h7⟩ := h.form
  exact ⟨A, c, zs, h1, h2, h3, h4, h5, h6, k.own h7 hT⟩
theorem Row.own0 {w : World} {g base n : Nat} {zs : List Nat} (h : Row w g zs) (hb : base ≤ g) (hn : n = zs.length) (hm : n ≤ 70368744177664 := by omega) : w.ownsRow base 89 1 (.slice (some ⟨g, 0, none⟩) n n) n (cellsU zs) := by
  have := h.own hb (n := n) (by omega) (by omega)
  subst hn
  rw [List.take_of_length_le (Nat.le_refl _)] at this
  exact this

set_option maxRecDepth 100000 in
set_option maxHeartbeats 2000000 in
theorem exact_Double_z (n1 : Bool) (A : Option Addr) (c n : Nat) (xs : List Nat) (hne : xs ≠ []) (hn : n ≤ 1048576) (hlx : xs.length ≤ 1048576) (z : Int) (HZ : Hid (z = if n1 then -((val xs * 2 ^ n : Nat) : Int) else ((val xs * 2 ^ n : Nat) : Int))) (w : World) (h : Raw w A c xs) :
    Calls Tryz.prog 205 #[.agg #[.bool n1, .slice A xs.length c], .int .i64 n] w (RetInt w.heap.size w z) := by
  have px := (Pair.new w 24 (.bool n1) (.slice A xs.length c)).alloc (.cells #[.bool false, .slice none 0 0] 24)
  have pr := Pair.new (w.alloc (.cells #[.bool n1, .slice A xs.length c] 24)) 24 (.bool false) (.slice none 0 0)
  have b0 := ((Below.refl w.heap.size w).alloc (Nat.le_refl _) (.cells #[.bool n1, .slice A xs.length c] 24)).alloc (by simp) (.cells #[.bool false, .slice none 0 0] 24)
  simp only [World.size_alloc] at pr
  have hlen : ((xs.length : Int) == 0) = false := by
    have : xs.length ≠ 0 := fun e => hne (List.eq_nil_of_length_eq_zero e)
    simp; omega
  have hn0 : (0 : Int) ≤ (n : Int) := by omega
  have hn1 : (n : Int) ≤ 1048576 := by omega
  obtain ⟨m, hm⟩ : ∃ m, m = n / 32 := ⟨_, rfl⟩
  obtain ⟨r, hr⟩ : ∃ r, r = n % 32 := ⟨_, rfl⟩
  have hmi : (n : Int) / 32 = (m : Int) := by omega
  have hri : (n : Int) % 32 = (r : Int) := by omega
  have hrt : (n : Int).tmod 32 = (r : Int) := by rw [Int.tmod_eq_emod_of_nonneg hn0]; exact hri
  have hm2 : m ≤ 32768 := by omega
  have hr2 : r ≤ 31 := by omega
  have HNM := Lib.hid (show n = 32 * m + r by omega)
  obtain ⟨i0, hi, hz0, hz1, hz2⟩ := info_parts limbInfo
  have hmk : ∀ W : World, (Instr.makeSlice 22 (.int .i64 (m : Int)) (.int .i64 (m : Int))).run Tryz.prog W = .ok (.slice (some ⟨W.heap.size, 0, none⟩) m m) (W.alloc (.cells (madeCells #[.int .u32 0] m) 89)) := fun W => by
    have h := run_make_rowN (P := Tryz.prog) 22 89 i0 _ Tryz.underlying22 hi hz0 .i64 .i64 m m (by omega) (by rw [hz2]; omega) (by omega) W
    rw [hz1, Nat.mul_one] at h
    exact h
  have C1 := Lib.hid (fun (V : World) (q : Raw V A c xs) => exact_up A c r xs hr2 (by omega) V q)
  have PX := Lib.hid px
  have PR := Lib.hid pr
  have HX := Lib.hid h
  have B0 := Lib.hid b0
  clear h hne hm hr px pr b0
  go_enter Tryz.func205, Tryz.ntmps205
  have q1 := PX.out.facts
  go_upto_region 3 with fail
  clear q1
  obtain ⟨W, E⟩ : ∃ W, W = (w.alloc (.cells #[.bool n1, .slice A xs.length c] 24)).alloc (.cells #[.bool false, .slice none 0 0] 24) := ⟨_, rfl⟩
  have hWs : W.heap.size = w.heap.size + 2 := by rw [E]; simp
  rw [← E] at PX PR B0 ⊢
  clear E
  have HPX := Lib.hid (fun (V : World) (hV : Below (w.heap.size + 1) W V) => PX.out.blk.below hV (Nat.lt_succ_self _))
  have HS := Lib.hid (fun (V : World) (u : Value) (hu : OwnL V (w.heap.size + 2) u (val xs * 2 ^ n) (m + (xs.length + 1))) => show Calls Tryz.prog 161 #[.bool n1, u] V (RetInt (w.heap.size + 2) V z) from by
    have := exact_signed_own n1 u _ _ (w.heap.size + 2) V hu
    rw [HZ.out]; exact this)
  refine wp_region_free [.val (.pointer (some ⟨w.heap.size, 0, none⟩)) [], .val (.bool n1) [], .val (.int .i64 (n : Int)) [], .val (.int .i64 (m : Int)) [], .any false (fun u V => MadeAt V (w.heap.size + 2) u m) [],
      .val (.pointer (some ⟨w.heap.size, 1, none⟩)) [], .val (.slice A xs.length c) [], .val (.int .i64 (n : Int)) [], .val (.int .i64 (r : Int)) [], .val (.int .u64 (r : Int)) [],
      .any false (fun u V => UpAt V u (xs.length + 1) (val xs * 2 ^ r)) [], .any false (fun u V => OwnL V (w.heap.size + 2) u (val xs * 2 ^ n) (m + (xs.length + 1))) [4, 10],
      .any false (fun u V => IntOwn V (w.heap.size + 2) u z) [11], .old (w.heap.size + 1) 24 #[.bool false, .slice none 0 0] 0 2 12 []]
    (w.heap.size + 1) W [24] (fun _ _ => False) _ mixedOrders2 (by omega) (Below.refl _ _) (KeptV.refl _ _ _) rfl (by kernel_rfl) (by kernel_rfl) (by kernel_rfl) (by kernel_rfl) (by kernel_rfl) (by kernel_rfl) (by kernel_rfl) (by kernel_rfl) rfl (by simp [oldsF]) ?_ ?_ ?_ ?_
  · simp only [StableF, and_true]
    exact ⟨fun u V V' h k => h.kept k (by decide), fun u V V' h k => h.kept k (by decide), fun u V V' h k => h.kept k (by decide), fun u V V' h k => h.kept k (by decide)⟩
  · simp only [OldsF, and_true]
    exact ⟨by omega, by omega, PR.out.blk, by simp⟩
  · simp (maxSteps := 4000000) [StepsF, DepF, freeAct, fill, pairs]
    repeat' (first | apply And.intro | (intro (u : Value)))
    all_goals try exact ⟨_, _, _, rfl, rfl, rfl, rfl, intInfo⟩
    all_goals first
    | (intro V hV hK
       have a0 := (HPX.out V hV).cell 0
       have a1 := (HPX.out V hV).cell 1
       simp at a0 a1
       have hs2 := hK.size
       have hs1 : w.heap.size < V.heap.size := by omega
       have HV := Lib.hid hV
       have HKV := Lib.hid hK
       clear hV hK
       go_simp
       first
       | exact Below.refl _ _
       | exact ⟨by first | rfl | decide | go_num, Below.refl _ _⟩
       | exact ⟨⟨_, rfl, by omega, Row.made V m⟩, (Below.refl _ _).alloc (Nat.le_refl _) _⟩
       | ((with_reducible refine (C1.out V (HX.out.below (B0.out.trans (HV.out.mono (by omega))))).mono ?_); rintro e w' ⟨g, zs, rfl, hg, hzl, hz, hv, hrow, hb⟩; exact ⟨⟨g, zs, rfl, hzl, hz, hv, hrow⟩, hb⟩))
    | (intro V hV hK hu
       clear hV hK
       have HU := Lib.hid (HS.out V _ hu)
       clear hu
       go_simp
       (with_reducible refine HU.out.mono ?_)
       rintro e w' ⟨v, rfl, hv, hb⟩
       exact ⟨hv, hb⟩)
    | exact fun _ _ _ (h : IntOwn _ _ _ _) => h.cells
    | (intro V hV hK
       clear hV hK
       go_simp
       first
       | exact Below.refl _ _
       | exact ⟨by first | exact hrt | rfl | go_num | (rw [IntKind.wrap_i64]; omega) | (rw [IntKind.wrap_u64]; omega), Below.refl _ _⟩)
    | (intro V hV hK h4 h10
       obtain ⟨g4, rfl, hg4, hr4⟩ := h4.ex
       obtain ⟨g10, zs, rfl, hzl, hz, hv, hr10⟩ := h10.ex
       have hbs : w.heap.size + 2 ≤ V.heap.size := by have := hK.size; omega
       clear hV hK h4 h10
       refine wp_append_moves (P := Tryz.prog) V (.tmp 14) (.tmp 20) 22 rfl (w.heap.size + 2) 89 i0 _ 4 Tryz.underlying22 hi hz0 hz1 hz2 rfl g4 m m (cellsU (List.replicate m 0)) rfl (hr4.own0 hg4 (by simp)) ⟨g10, 0, none⟩ (xs.length + 1) _ (cellsU zs) rfl (by simp [cellsU, hzl]) ?_ (cellsU_one _) (by omega) (by unfold maxLen; omega) (by omega) hbs ?_
       · intro j u hj
         obtain ⟨ad, e, _, hc⟩ := hr10.front.reads.2 (by omega)
         obtain rfl := Option.some.inj e
         exact hc j u hj
       · intro v' w' how hb
         refine ⟨v', rfl, ?_, hb⟩
         have e2 : cellsU (List.replicate m 0) ++ cellsU zs = cellsU (List.replicate m 0 ++ zs) := by simp [cellsU]
         have hl1 : Limbs (List.replicate m 0 ++ zs) := limbs_append.2 ⟨limbs_noughts _, hz⟩
         have el : m + (xs.length + 1) = (List.replicate m 0 ++ zs).length := by simp [hzl]
         rw [e2, el] at how
         have hov := (OwnX.of_own hl1 how).ownL
         rw [el]
         have hval1 : val (List.replicate m 0 ++ zs) = val xs * 2 ^ n := by
           rw [val_append, val_noughts, List.length_replicate, hv, HNM.out, Nat.pow_add, Nat.pow_mul]
           rw [show (2 : Nat) ^ 32 = 4294967296 by decide]
           grind
         rw [hval1] at hov
         exact hov)
  · simp [EndF, FactsF, freeAct, fill, pairs]
    intro u4 u10 u11 u V hV hK h4 h10 h11 h12 bq _ _ _
    obtain ⟨A2, c2, rfl, -⟩ := h12.form
    simp [setAll, Value.cells] at bq
    have k0 := bq.cell 0
    have k1 := bq.cell 1
    simp at k0 k1
    have H2 := Lib.hid h12
    have HBV := Lib.hid (B0.out.trans (hV.mono (by omega)))
    clear h4 h10 h11 h12 hV hK
    go_wp2_with fail
    exact bodyPost_ret (by simp [results, Tryz.results205, go_sem, k0, k1]) rfl ⟨_, rfl, H2.out.base (by omega), HBV.out⟩
end Go.Proofs.YtadmoheohmbieaaGreatDoor
