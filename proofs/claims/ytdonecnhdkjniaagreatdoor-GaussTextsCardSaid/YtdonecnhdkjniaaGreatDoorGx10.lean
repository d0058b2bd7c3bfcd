/- Several texts in one: RefQuo, RefDouble, RefCommon, Common, Answer. -/
import Derived.Test.YtdonecnhdkjniaaGreatDoorGx09
import Derived.Deep.LoopGhost
set_option maxRecDepth 100000
set_option maxHeartbeats 8000000
namespace Go.Proofs.YtdonecnhdkjniaaGreatDoor
open Go.RowKit

theorem ref_divide (A B : Option Addr) (c d : Nat) (xs ys : List Nat) (hcy : ZU ys) (hyl : ys ≠ []) (hlx : xs.length <= 536870000) (hly : ys.length <= 536870000) (w : World) (h : Zm w A c xs) (g : Zm w B d ys) :
   Calls Tryz.prog 262 #[.slice A xs.length c, .slice B ys.length d] w (RetNN w.heap.size w (val xs / val ys) (val xs % val ys)) := by
 have h0 : ys.length ≠ 0 := fun e => hyl (List.eq_nil_of_length_eq_zero e)
 rcases (by omega : ys.length = 1 ∨ 2 <= ys.length) with h1 | h1
 . exact ref_divide_one A B c d xs ys hcy h1 (by omega) w h g
 . exact ref_divide_many A B c d xs ys hcy h1 hlx hly w h g

theorem ref_Divide_z (n1 n2 nn : Bool) (HN : Hid (nn = (n1 != n2))) (A B : Option Addr) (c d : Nat) (xs ys : List Nat) (hcy : ZU ys) (hne : ys ≠ []) (hlx : xs.length <= 536870000) (hly : ys.length <= 536870000) (z1 z2 : Int) (HZ1 : Hid (z1 = Zv nn (Za (val xs / val ys)))) (HZ2 : Hid (z2 = Zv n1 (Za (val xs % val ys)))) (w : World) (h : Zm w A c xs) (g : Zm w B d ys) :
   Calls Tryz.prog 232 #[.agg #[.bool n1, .slice A xs.length c], .agg #[.bool n2, .slice B ys.length d]] w (RetBoth w.heap.size w z1 z2) := by
 have px := (((Zr.new w 24 (.bool n1) (.slice A xs.length c)).alloc (.cells #[.bool n2, .slice B ys.length d] 24)).alloc (.cells #[.bool false, .slice none 0 0] 24)).alloc (.cells #[.bool false, .slice none 0 0] 24)
 have py := ((Zr.new (w.alloc (.cells #[.bool n1, .slice A xs.length c] 24)) 24 (.bool n2) (.slice B ys.length d)).alloc (.cells #[.bool false, .slice none 0 0] 24)).alloc (.cells #[.bool false, .slice none 0 0] 24)
 have pq := (Zr.new ((w.alloc (.cells #[.bool n1, .slice A xs.length c] 24)).alloc (.cells #[.bool n2, .slice B ys.length d] 24)) 24 (.bool false) (.slice none 0 0)).alloc (.cells #[.bool false, .slice none 0 0] 24)
 have pr := Zr.new (((w.alloc (.cells #[.bool n1, .slice A xs.length c] 24)).alloc (.cells #[.bool n2, .slice B ys.length d] 24)).alloc (.cells #[.bool false, .slice none 0 0] 24)) 24 (.bool false) (.slice none 0 0)
 have rx := ((((h.alloc (.cells #[.bool n1, .slice A xs.length c] 24)).alloc (.cells #[.bool n2, .slice B ys.length d] 24)).alloc (.cells #[.bool false, .slice none 0 0] 24)).alloc (.cells #[.bool false, .slice none 0 0] 24))
 have ry := ((((g.alloc (.cells #[.bool n1, .slice A xs.length c] 24)).alloc (.cells #[.bool n2, .slice B ys.length d] 24)).alloc (.cells #[.bool false, .slice none 0 0] 24)).alloc (.cells #[.bool false, .slice none 0 0] 24))
 have b0 := ((((Below.refl w.heap.size w).alloc (Nat.le_refl _) (.cells #[.bool n1, .slice A xs.length c] 24)).alloc (by simp) (.cells #[.bool n2, .slice B ys.length d] 24)).alloc (by simp; omega) (.cells #[.bool false, .slice none 0 0] 24)).alloc (by simp; omega) (.cells #[.bool false, .slice none 0 0] 24)
 simp only [World.size_alloc] at py pq pr
 clear h g
 go_enter Tryz.func232, Tryz.ntmps232
 go_wp2_with fail
 obtain ⟨W0, E⟩ : ∃ W, W = ((((w.alloc (.cells #[.bool n1, .slice A xs.length c] 24)).alloc (.cells #[.bool n2, .slice B ys.length d] 24)).alloc (.cells #[.bool false, .slice none 0 0] 24)).alloc (.cells #[.bool false, .slice none 0 0] 24)) := ⟨_, rfl⟩
 rw [<- E] at px py pq pr b0 rx ry ⊢
 have hsz : W0.heap.size = w.heap.size + 4 := by rw [E]; simp
 clear E
 obtain ⟨l1, x0, x1, -, -⟩ := px.facts
 obtain ⟨l2, y0, y1, -, -⟩ := py.facts
 refine (ref_divide A B c d xs ys hcy hne hlx hly W0 rx ry).mono ?_
 rintro e W ⟨u1, u2, rfl, hu1, hu2, hb⟩
 have hsW := hb.size
 have HPX := Hd (fun (V : World) (hV : Below (w.heap.size + 2) W V) => (px.below hb).blk.below hV (Nat.lt_succ_of_lt (Nat.lt_succ_self _)))
 have HPY := Hd (fun (V : World) (hV : Below (w.heap.size + 2) W V) => (py.below hb).blk.below hV (Nat.lt_succ_self _))
 have PQ := Hd (pq.below hb)
 have PR := Hd (pr.below hb)
 have HB := Hd (Zb b0 hb)
 have HU1 := Hd (hu1.base (b' := w.heap.size) (by omega))
 have HU2 := Hd (hu2.base (b' := w.heap.size) (by omega))
 have hsw : w.heap.size + 4 <= W.heap.size := by omega
 clear px py pq pr rx ry b0 l1 x0 x1 l2 y0 y1 hb hu1 hu2 hsz hsW
 go_wp2_with fail
 have C1 := Hd (fun (V : World) (hK : Zu (w.heap.size + 2) [24] W V) => show Calls Tryz.prog 231 #[.bool nn, u1] V (ZY w.heap.size V z1) from by
   have := XW nn u1 (val xs / val ys) _ w.heap.size V ((HU1.out.kept hK (by decide)).ownL (Nat.le_refl _))
   rw [HZ1.out]; unfold Zv; rw [Zi]; exact this)
 have C2 := Hd (fun (V : World) (hK : Zu (w.heap.size + 2) [24] W V) => show Calls Tryz.prog 231 #[.bool n1, u2] V (ZY w.heap.size V z2) from by
   have := XW n1 u2 (val xs % val ys) _ w.heap.size V ((HU2.out.kept hK (by decide)).ownL (Nat.le_refl _))
   rw [HZ2.out]; unfold Zv; rw [Zi]; exact this)
 clear HU1 HU2
 refine Zd [.val (.pointer (some ⟨w.heap.size, 0, none⟩)) [], .val (.bool n1) [], .val (.pointer (some ⟨w.heap.size + 1, 0, none⟩)) [], .val (.bool n2) [], .val (.bool nn) [], .val u1 [], .any false (fun u V => Zc V w.heap.size u z1) [],
    .val (.pointer (some ⟨w.heap.size, 0, none⟩)) [], .val (.bool n1) [], .val u2 [], .any false (fun u V => Zc V w.heap.size u z2) [],
    .old (w.heap.size + 2) 24 #[.bool false, .slice none 0 0] 0 2 6 [], .old (w.heap.size + 3) 24 #[.bool false, .slice none 0 0] 0 2 10 []]
   (w.heap.size + 2) W [24] (fun _ _ => False) _ Zf (by omega) (Below.refl _ _) (Zu.refl _ _ _) rfl ?_ ?_ ?_ ?_ ?_ ?_ ?_ ?_ rfl (by simp [ZP]) ?_ ?_ ?_ ?_
 iterate 8 kernel_rfl
 . simp only [Zy, and_true]
   exact ⟨fun u V V' h k => h.kept k (by decide), fun u V V' h k => h.kept k (by decide)⟩
 . simp only [Z5, and_true]
   exact ⟨⟨by omega, by omega, PQ.out.blk, by simp⟩, by omega, by omega, PR.out.blk, by simp⟩
 . simp [ZH, YD, Zg, ZF, Zn]
   repeat' (first | apply And.intro | (intro (u : Value)))
   all_goals try exact ⟨_, _, _, rfl, rfl, rfl, rfl, intInfo⟩
   all_goals first
   | (intro V hV hK
      have a0 := (HPX.out V hV).cell 0
      have b0 := (HPY.out V hV).cell 0
      simp at a0 b0
      clear hV
      go_simp
      first
      | exact Below.refl _ _
      | exact ⟨by rw [HN.out]; cases n1 <;> cases n2 <;> rfl, Below.refl _ _⟩
      | ((with_reducible refine (C1.out V hK).mono ?_); rintro _ _ ⟨_, rfl, x⟩; exact x)
      | ((with_reducible refine (C2.out V hK).mono ?_); rintro _ _ ⟨_, rfl, x⟩; exact x))
   | exact fun _ _ _ (h : Zc _ _ _ _) => h.cells
 . simp [YH, ZK, Zg, ZF, Zn]
   intro u v V hV hK h1 h2 bq br _ _ _
   obtain ⟨A1, c1, rfl, -⟩ := h1.form
   obtain ⟨A2, c2, rfl, -⟩ := h2.form
   simp [Yd, Value.cells] at bq br
   have k0 := bq.cell 0
   have k1 := bq.cell 1
   have k2 := br.cell 0
   have k3 := br.cell 1
   simp at k0 k1 k2 k3
   have H1 := Hd h1
   have H2 := Hd h2
   have HBV := Hd (HB.out.trans (hV.mono (by omega)))
   clear h1 h2 hV hK
   go_wp2_with fail
   exact bodyPost_ret (by simp [results, Tryz.results232, go_sem, k0, k1, k2, k3]) rfl ⟨_, _, rfl, H1.out, H2.out, HBV.out⟩
theorem ref_Divide (n1 n2 : Bool) (A B : Option Addr) (c d : Nat) (xs ys : List Nat) (hcy : ZU ys) (hne : ys ≠ []) (hlx : xs.length <= 536870000) (hly : ys.length <= 536870000) (w : World) (h : Zm w A c xs) (g : Zm w B d ys) :
  Calls Tryz.prog 232 #[.agg #[.bool n1, .slice A xs.length c], .agg #[.bool n2, .slice B ys.length d]] w (RetBoth w.heap.size w ((Zv n1 xs).tdiv (Zv n2 ys)) ((Zv n1 xs).tmod (Zv n2 ys))) :=
 ref_Divide_z n1 n2 _ (Hd rfl) A B c d xs ys hcy hne hlx hly _ _ (Hd (quo_val n1 n2 xs ys).1.symm) (Hd (quo_val n1 n2 xs ys).2.symm) w h g

theorem ref_Double_z (n1 : Bool) (A : Option Addr) (c n : Nat) (xs : List Nat) (hne : xs ≠ []) (hn : n <= 1048576) (hlx : xs.length <= 1048576) (z : Int) (HZ : Hid (z = if n1 then -((val xs * 2 ^ n : Nat) : Int) else ((val xs * 2 ^ n : Nat) : Int))) (w : World) (h : Zm w A c xs) :
  Calls Tryz.prog 280 #[.agg #[.bool n1, .slice A xs.length c], .int .i64 n] w (ZY w.heap.size w z) := by
 have px := (Zr.new w 24 (.bool n1) (.slice A xs.length c)).alloc (.cells #[.bool false, .slice none 0 0] 24)
 have pr := Zr.new (w.alloc (.cells #[.bool n1, .slice A xs.length c] 24)) 24 (.bool false) (.slice none 0 0)
 have rx := ((h.alloc (.cells #[.bool n1, .slice A xs.length c] 24)).alloc (.cells #[.bool false, .slice none 0 0] 24))
 have b0 := ((Below.refl w.heap.size w).alloc (Nat.le_refl _) (.cells #[.bool n1, .slice A xs.length c] 24)).alloc (by simp) (.cells #[.bool false, .slice none 0 0] 24)
 simp only [World.size_alloc] at pr
 have hlen : ((xs.length : Int) == 0) = false := by
  have : xs.length ≠ 0 := fun e => hne (List.eq_nil_of_length_eq_zero e)
  simp; omega
 have HL := Hd h.limbs
 have hn0 : (0 : Int) <= (n : Int) := by omega
 have hn1 : (n : Int) <= 1048576 := by omega
 obtain ⟨m, hm⟩ : ∃ m, m = n / 32 := ⟨_, rfl⟩
 obtain ⟨r, hr⟩ : ∃ r, r = n % 32 := ⟨_, rfl⟩
 have hmi : (n : Int) / 32 = (m : Int) := by omega
 have hri : (n : Int) % 32 = (r : Int) := by omega
 have hm2 : m <= 32768 := by omega
 have hr2 : r <= 31 := by omega
 have HNM := Hd (show n = 32 * m + r by omega)
 obtain ⟨i0, hi, hz0, hz1, hz2⟩ := info_parts YC
 have hmk : ∀ W : World, (Instr.makeSlice 22 (.int .i64 (m : Int)) (.int .i64 (m : Int))).run Tryz.prog W = .ok (.slice (some ⟨W.heap.size, 0, none⟩) m m) (W.alloc (.cells (madeCells #[.int .u32 0] m) 109)) := fun W => by
  have h := Ye (P := Tryz.prog) 22 109 i0 _ Tryz.underlying22 hi hz0 .i64 .i64 m m (by omega) (by rw [hz2]; omega) (by omega) W
  rw [hz1, Nat.mul_one] at h
  exact h
 clear h hne hm hr
 go_enter Tryz.func280, Tryz.ntmps280
 have hown0 := (YJ.made ((w.alloc (.cells #[.bool n1, .slice A xs.length c] 24)).alloc (.cells #[.bool false, .slice none 0 0] 24)) m).own (base := w.heap.size + 2) (by simp) (n := m) (by simp) (by simp; omega)
 rw [List.length_replicate, List.take_of_length_le (by simp)] at hown0
 simp only [World.size_alloc] at hown0
 have px2 := px.alloc (.cells (madeCells #[.int .u32 0] m) 109)
 have pr2 := pr.alloc (.cells (madeCells #[.int .u32 0] m) 109)
 have rx2 := rx.alloc (.cells (madeCells #[.int .u32 0] m) 109)
 have b2 := b0.alloc (by simp; omega) (.cells (madeCells #[.int .u32 0] m) 109)
 have HOW := Hd hown0
 have PX := Hd px2
 have PR := Hd pr2
 have RX := Hd rx2
 have B2 := Hd b2
 clear px pr rx b0 hown0 px2 pr2 rx2 b2
 go_wp2_with (at_builtin; refine Zw _ rfl (.tmp 16) (.tmp 18) _ rfl (w.heap.size + 2) 109 i0 _ 1 4 Tryz.underlying22 hi hz0 hz1 hz2 rfl (by omega) (.slice (some ⟨w.heap.size + 2, 0, none⟩) m m) m _ rfl HOW.out _ A xs.length c (Zh xs) rfl RX.out.reads (cellsU_one _) (by unfold maxLen; omega) (by omega) (by simp) ?_; intro v1 w1 ho1 hg1 hat1)
 have e2 : Zh (List.replicate m 0) ++ Zh xs = Zh (List.replicate m 0 ++ xs) := by simp [Zh]
 rw [e2] at ho1
 have hlen1 : (List.replicate m 0 ++ xs).length = m + xs.length := by simp
 rw [<- hlen1] at ho1
 have hl1 : Zj (List.replicate m 0 ++ xs) := Yh.2 ⟨Yr _, HL.out⟩
 obtain ⟨A1, c1, rfl, f1, f2, f3⟩ := (OwnX.of_own hl1 ho1).form
 have hraw1 : OwnX w1 (w.heap.size + 2) (.slice A1 (List.replicate m 0 ++ xs).length c1) (List.replicate m 0 ++ xs) := ⟨hl1, A1, c1, rfl, f1, f2, f3⟩
 have hval1 : val (List.replicate m 0 ++ xs) * 2 ^ r = val xs * 2 ^ n := by
  rw [YK, val_noughts, List.length_replicate, HNM.out, Nat.pow_add, Nat.pow_mul]
  rw [show (2 : Nat) ^ 32 = 4294967296 by decide]
  grind
 have px1 := PX.out.grown hg1 (by simp [Value.ownBlock])
 have pr1 := PR.out.grown hg1 (by simp [Value.ownBlock])
 have bl1 := B2.out.grown hg1 (by simp; omega) (fun k hk => by simp [Value.ownBlock] at hk; omega)
 have PX1 := Hd px1
 have PR1 := Hd pr1
 have RW1 := Hd hraw1
 have B1 := Hd bl1
 have HV1 := Hd hval1
 have hll : (List.replicate m 0 ++ xs).length <= 1200000 := by rw [hlen1]; omega
 have hs1 : w.heap.size + 2 <= w1.heap.size := by have := hg1.size; simp at this; omega
 generalize hLL : List.replicate m 0 ++ xs = LL at *
 clear ho1 hg1 hat1 e2 hl1 f1 f2 f3 hraw1 hval1 px1 pr1 bl1 HOW PX PR RX B2 hLL hlen1
 go_loop [6, 7] (fun v6 v7 => ∃ k f : Nat, v6 = .int .u32 f /\ v7 = .int .i64 k /\ k <= r /\ f < 4294967296 /\ Hid (f = 2 ^ k)) (fun _ v7 => r - (intOf v7).toNat)
 case atStart => exact ⟨0, 1, rfl, rfl, Nat.zero_le _, by omega, Hd rfl⟩
 case round =>
  obtain ⟨k, f, rfl, rfl, hk, hf, HF⟩ := hrel
  by_cases hkr : k < r
  . have h2f : 2 * f < 4294967296 := by
      have e : 2 * f = 2 ^ (k + 1) := by rw [HF.out, Nat.pow_succ, Nat.mul_comm]
      rw [e]
      exact Nat.lt_of_le_of_lt (Nat.pow_le_pow_right (by omega) (show k + 1 <= 31 by omega)) (by decide)
    have hki : (k : Int) < (r : Int) := by omega
    have h2i : (2 * (f : Int)) % 4294967296 = ((2 * f : Nat) : Int) := by omega
    have HF2 := Hd (show 2 * f = 2 ^ (k + 1) by rw [HF.out, Nat.pow_succ, Nat.mul_comm])
    clear HF
    go_wp2_with fail
    go_round
    case rel => exact ⟨k + 1, 2 * f, by first | rfl | go_num, by go_num, hkr, h2f, HF2⟩
    case measure => simp [intOf]; omega
  . obtain rfl : k = r := by omega
    have hge : (k : Int) <= (k : Int) := Int.le_refl _
    go_wp2_with fail
    have C1 := Hd (fun (V : World) (hK : Zu (w.heap.size + 1) [24] w1 V) => show Calls Tryz.prog 230 #[.slice A1 LL.length c1, .int .u32 f] V (RetN V.heap.size V (val xs * 2 ^ n)) from by
      have := ref_times A1 c1 f LL hf (Nat.le_trans hll (by omega)) V (RW1.out.kept hK (by decide)).raw
      rw [HF.out, HV1.out] at this
      rw [<- HF.out] at this
      exact this)
    have C2 := Hd (fun (V : World) (u : Value) (hu : Yx V w.heap.size u (val xs * 2 ^ n)) => show Calls Tryz.prog 231 #[.bool n1, u] V (ZY w.heap.size V z) from by
      have := XW n1 u _ _ w.heap.size V (hu.ownL (Nat.le_refl _))
      rw [HZ.out]; exact this)
    have HPX := Hd (fun (V : World) (hV : Below (w.heap.size + 1) w1 V) => PX1.out.blk.below hV (Nat.lt_succ_self _))
    refine Zd [.val (.pointer (some ⟨w.heap.size, 0, none⟩)) [], .val (.bool n1) [], .val (.slice A1 LL.length c1) [], .val (.int .u32 (f : Int)) [], .any false (fun u V => Yx V w.heap.size u (val xs * 2 ^ n)) [], .any false (fun u V => Zc V w.heap.size u z) [4],
       .old (w.heap.size + 1) 24 #[.bool false, .slice none 0 0] 0 2 5 []]
      (w.heap.size + 1) w1 [24] (fun _ _ => False) _ Zf (by omega) (Below.refl _ _) (Zu.refl _ _ _) rfl ?_ ?_ ?_ ?_ ?_ ?_ ?_ ?_ rfl (by simp [ZP]) ?_ ?_ ?_ ?_
    iterate 8 kernel_rfl
    . simp only [Zy, and_true]
      exact ⟨fun u V V' h k => h.kept k (by decide), fun u V V' h k => h.kept k (by decide)⟩
    . simp only [Z5, and_true]
      exact ⟨by omega, by omega, PR1.out.blk, by simp⟩
    . simp [ZH, YD, Zg, ZF, Zn]
      repeat' (first | apply And.intro | (intro (u : Value)))
      all_goals try exact ⟨_, _, _, rfl, rfl, rfl, rfl, intInfo⟩
      all_goals first
      | (intro V hV hK
         have a0 := (HPX.out V hV).cell 0
         simp at a0
         have hs2 := hK.size
         go_simp
         first
         | exact Below.refl _ _
         | ((with_reducible refine (C1.out V hK).mono ?_); rintro _ _ ⟨_, rfl, x, y⟩; exact ⟨x.base (by omega), y⟩))
      | (intro V hV hK hu
         go_simp
         (with_reducible refine (C2.out V _ hu).mono ?_)
         rintro e w' ⟨v, rfl, hv, hb⟩
         exact ⟨hv, hb⟩)
      | exact fun _ _ _ (h : Zc _ _ _ _) => h.cells
    . simp [YH, ZK, Zg, ZF, Zn]
      intro u v V hV hK h1 h2 bq _ _ _
      obtain ⟨A2, c2, rfl, -⟩ := h2.form
      simp [Yd, Value.cells] at bq
      have k0 := bq.cell 0
      have k1 := bq.cell 1
      simp at k0 k1
      have H2 := Hd h2
      have HBV := Hd (B1.out.trans (hV.mono (by omega)))
      clear h1 h2 hV hK
      go_wp2_with fail
      exact bodyPost_ret (by simp [results, Tryz.results280, go_sem, k0, k1]) rfl ⟨_, rfl, H2.out, HBV.out⟩

theorem gcd_even {a b : Nat} (ha : a % 2 = 0) (hb : b % 2 = 0) : Nat.gcd a b = 2 * Nat.gcd (a / 2) (b / 2) := by
 have e1 : a = 2 * (a / 2) := by omega
 have e2 : b = 2 * (b / 2) := by omega
 conv => lhs; rw [e1, e2]
 exact Nat.gcd_mul_left 2 _ _
theorem gcd_half_left {a b : Nat} (ha : a % 2 = 0) (hb : b % 2 = 1) : Nat.gcd (a / 2) b = Nat.gcd a b := by
 have e1 : a = 2 * (a / 2) := by omega
 conv => rhs; rw [e1]
 have hc : Nat.Coprime 2 b := by
  rw [Nat.coprime_iff_gcd_eq_one, Nat.gcd_rec, hb]; rfl
 exact (Nat.Coprime.gcd_mul_left_cancel (a / 2) hc).symm
theorem gcd_half_right {a b : Nat} (ha : a % 2 = 1) (hb : b % 2 = 0) : Nat.gcd a (b / 2) = Nat.gcd a b := by
 rw [Nat.gcd_comm, gcd_half_left hb ha, Nat.gcd_comm]
theorem gcd_less {a b : Nat} (h : b <= a) : Nat.gcd (a - b) b = Nat.gcd a b := Nat.gcd_sub_self_left h

structure Cm1 (w wr : World) (X Y : Nat) (A1 : Option Addr) (c1 a : Nat) (A2 : Option Addr) (c2 b t : Nat) : Prop where
 ra : Zm wr A1 c1 (Za a)
 rb : Zm wr A2 c2 (Za b)
 low : Below w.heap.size w wr
 pa : 0 < a
 pb : 0 < b
 gcd : Nat.gcd a b * 2 ^ t = Nat.gcd X Y
 la : a * 2 ^ t <= X
 lb : b <= Y
theorem Cm1.next {w wr wr' : World} {X Y : Nat} {A1 A2 A1' A2' : Option Addr} {c1 a c2 b t c1' c2' : Nat} (h : Cm1 w wr X Y A1 c1 a A2 c2 b t) (ha : a % 2 = 0) (hb : b % 2 = 0) (r1 : Zm wr' A1' c1' (Za (a / 2))) (r2 : Zm wr' A2' c2' (Za (b / 2))) (hl : Below w.heap.size w wr') : Cm1 w wr' X Y A1' c1' (a / 2) A2' c2' (b / 2) (t + 1) := by
 have h1 := h.pa
 have h2 := h.pb
 refine ⟨r1, r2, hl, by omega, by omega, ?_, ?_, by have := h.lb; omega⟩
 . rw [<- h.gcd, gcd_even ha hb, Nat.pow_succ]
   generalize 2 ^ t = p
   rw [Nat.mul_comm p 2, <- Nat.mul_assoc, Nat.mul_comm _ 2]
 . have := h.la
   rw [Nat.pow_succ]
   have e : a / 2 * (2 ^ t * 2) = (a / 2 * 2) * 2 ^ t := by rw [Nat.mul_comm (2 ^ t), Nat.mul_assoc]
   rw [e, show a / 2 * 2 = a by omega]
   exact this
theorem twos_le {X a t L : Nat} (ha : 0 < a) (h : a * 2 ^ t <= X) (hX : (Za X).length <= L) : t <= 32 * L := by
 have h1 : X < 2 ^ (32 * L) := by
  have := ZN.1 hX
  rw [show 4294967296 = 2 ^ 32 by decide, <- Nat.pow_mul] at this
  exact this
 have h2 : 2 ^ t <= X := Nat.le_trans (Nat.le_mul_of_pos_left _ ha) h
 have h3 : 2 ^ t < 2 ^ (32 * L) := by omega
 exact Nat.le_of_lt ((Nat.pow_lt_pow_iff_right (by omega)).1 h3)

theorem odd_of {a b : Nat} (h : ¬ (a % 2 = 0 /\ b % 2 = 0)) : a % 2 = 1 ∨ b % 2 = 1 := by omega
structure Cm2 (w wr : World) (g : Nat) (A1 : Option Addr) (c1 a : Nat) (A2 : Option Addr) (c2 b L : Nat) : Prop where
 ra : Zm wr A1 c1 (Za a)
 rb : Zm wr A2 c2 (Za b)
 low : Below w.heap.size w wr
 pb : 0 < b
 odd : a % 2 = 1 ∨ b % 2 = 1
 gcd : Nat.gcd a b = g
 la : (Za a).length <= L
 lb : (Za b).length <= L
theorem Cm2.halfa {w wr wr' : World} {g : Nat} {A1 A2 A1' : Option Addr} {c1 a c2 b L c1' : Nat} (h : Cm2 w wr g A1 c1 a A2 c2 b L) (ha : a % 2 = 0) (r1 : Zm wr' A1' c1' (Za (a / 2))) (hb : Below wr.heap.size wr wr') : Cm2 w wr' g A1' c1' (a / 2) A2 c2 b L := by
 have ho : b % 2 = 1 := by have := h.odd; omega
 exact ⟨r1, h.rb.below hb, Zb h.low hb, h.pb, .inr ho, by rw [gcd_half_left ha ho]; exact h.gcd, Nat.le_trans (Yu (Nat.div_le_self _ _)) h.la, h.lb⟩
theorem Cm2.halfb {w wr wr' : World} {g : Nat} {A1 A2 A2' : Option Addr} {c1 a c2 b L c2' : Nat} (h : Cm2 w wr g A1 c1 a A2 c2 b L) (hb0 : b % 2 = 0) (r2 : Zm wr' A2' c2' (Za (b / 2))) (hb : Below wr.heap.size wr wr') : Cm2 w wr' g A1 c1 a A2' c2' (b / 2) L := by
 have ho : a % 2 = 1 := by have := h.odd; omega
 have := h.pb
 exact ⟨h.ra.below hb, r2, Zb h.low hb, by omega, .inl ho, by rw [gcd_half_right ho hb0]; exact h.gcd, h.la, Nat.le_trans (Yu (Nat.div_le_self _ _)) h.lb⟩
theorem X0 {a : Nat} (h : 0 < a) : 0 < (Za a).length := by
 rcases Nat.eq_zero_or_pos (Za a).length with h0 | h0
 . have := Ym.1 (List.eq_nil_of_length_eq_zero h0)
   omega
 . exact h0
theorem X9 (A : Option Addr) (c a : Nat) (hl : (Za a).length <= 1073741824) (w : World) (h : Zm w A c (Za a)) :
  Calls Tryz.prog 277 #[.slice A (Za a).length c] w (RetN w.heap.size w (a / 2)) := by
 have := ref_half A c (Za a) hl w h
 rwa [Zi] at this
theorem YF (A : Option Addr) (c a : Nat) (h0 : 0 < a) (w : World) (h : Zm w A c (Za a)) (b : Bool) (hb : b = (a % 2 == 0)) :
  Calls Tryz.prog 276 #[.slice A (Za a).length c] w fun e w' => e = .returned (.bool b) /\ w = w' :=
 ref_even A c (Za a) (X0 h0) w h b (by rw [Zi]; exact hb)

theorem ref_Common_more (n1 n2 : Bool) (A B : Option Addr) (c d : Nat) (xs ys : List Nat) (hcx : ZU xs) (hcy : ZU ys) (hnx : xs ≠ []) (hny : ys ≠ []) (hlx : xs.length <= 30000) (hly : ys.length <= 30000) (w : World) (h : Zm w A c xs) (g : Zm w B d ys) :
  Calls Tryz.prog 259 #[.agg #[.bool n1, .slice A xs.length c], .agg #[.bool n2, .slice B ys.length d]] w (ZY w.heap.size w ((Nat.gcd (val xs) (val ys) : Nat) : Int)) := by
 have px := ((Zr.new w 24 (.bool n1) (.slice A xs.length c)).alloc (.cells #[.bool n2, .slice B ys.length d] 24)).alloc (.cells #[.bool false, .slice none 0 0] 24)
 have py := (Zr.new (w.alloc (.cells #[.bool n1, .slice A xs.length c] 24)) 24 (.bool n2) (.slice B ys.length d)).alloc (.cells #[.bool false, .slice none 0 0] 24)
 have pr := Zr.new ((w.alloc (.cells #[.bool n1, .slice A xs.length c] 24)).alloc (.cells #[.bool n2, .slice B ys.length d] 24)) 24 (.bool false) (.slice none 0 0)
 have rx := (((h.alloc (.cells #[.bool n1, .slice A xs.length c] 24)).alloc (.cells #[.bool n2, .slice B ys.length d] 24)).alloc (.cells #[.bool false, .slice none 0 0] 24))
 have ry := (((g.alloc (.cells #[.bool n1, .slice A xs.length c] 24)).alloc (.cells #[.bool n2, .slice B ys.length d] 24)).alloc (.cells #[.bool false, .slice none 0 0] 24))
 have b0 := (((Below.refl w.heap.size w).alloc (Nat.le_refl _) (.cells #[.bool n1, .slice A xs.length c] 24)).alloc (by simp) (.cells #[.bool n2, .slice B ys.length d] 24)).alloc (by simp; omega) (.cells #[.bool false, .slice none 0 0] 24)
 simp only [World.size_alloc] at py pr
 obtain ⟨X, hX⟩ : ∃ X, X = val xs := ⟨_, rfl⟩
 obtain ⟨Y, hY⟩ : ∃ Y, Y = val ys := ⟨_, rfl⟩
 have eX : Za X = xs := by rw [hX]; exact YU h.limbs hcx
 have eY : Za Y = ys := by rw [hY]; exact YU g.limbs hcy
 have hpX : 0 < X := by
  rcases Nat.eq_zero_or_pos X with h0 | h0
  . rw [h0, Z8] at eX; exact absurd eX.symm hnx
  . exact h0
 have hpY : 0 < Y := by
  rcases Nat.eq_zero_or_pos Y with h0 | h0
  . rw [h0, Z8] at eY; exact absurd eY.symm hny
  . exact h0
 rw [<- hX, <- hY]
 rw [<- eX] at hlx px py pr rx ry b0 ⊢
 rw [<- eY] at hly px py pr rx ry b0 ⊢
 clear h g hnx hny hcx hcy eX eY hX hY
 have e1 : (((Za X).length : Int) == 0) = false := beq_false_of_ne (by have := X0 hpX; omega)
 have e2 : (((Za Y).length : Int) == 0) = false := beq_false_of_ne (by have := X0 hpY; omega)
 go_enter Tryz.func259, Tryz.ntmps259
 obtain ⟨W, E⟩ : ∃ W, W = ((w.alloc (.cells #[.bool n1, .slice A (Za X).length c] 24)).alloc (.cells #[.bool n2, .slice B (Za Y).length d] 24)).alloc (.cells #[.bool false, .slice none 0 0] 24) := ⟨_, rfl⟩
 go_wp2_with fail
 rw [<- E] at px py pr b0 rx ry ⊢
 clear E e1 e2
 have PR := Hd pr
 have B0 := Hd b0
 have HLX := Hd hlx
 have HLY := Hd hly
 have HPX := Hd hpX
 have HPY := Hd hpY
 have H0 := Hd (show Cm1 w W X Y A c X B d Y 0 from ⟨rx, ry, b0, hpX, hpY, by simp, by simp, Nat.le_refl _⟩)
 have HK0 := Hd (Below.refl W.heap.size W)
 clear px py pr rx ry b0 hlx hly hpX hpY
 go_loopg [5, 6, 7] (X) (fun k v5 v6 v7 wr => ∃ A1 c1 a A2 c2 b t, v5 = .slice A1 (Za a).length c1 /\ v6 = .slice A2 (Za b).length c2 /\ v7 = .int .i64 (t : Nat) /\ k = a /\ Hid (Cm1 w wr X Y A1 c1 a A2 c2 b t /\ Below W.heap.size W wr))
 case atStart => exact ⟨A, c, X, B, d, Y, 0, rfl, rfl, rfl, rfl, Hd ⟨H0.out, HK0.out⟩⟩
 case round =>
  clear H0 HK0
  obtain ⟨A1, c1, a, A2, c2, b, t, rfl, rfl, rfl, hka, HR⟩ := hrel
  have HKA := Hd hka
  clear hka
  have la := Nat.le_trans (Yu (Nat.le_trans (Nat.le_mul_of_pos_right a (Nat.two_pow_pos t)) HR.out.1.la)) HLX.out
  have lb := Nat.le_trans (Yu HR.out.1.lb) HLY.out
  have ht := twos_le HR.out.1.pa HR.out.1.la HLX.out
  by_cases hab : a % 2 = 0 /\ b % 2 = 0
  . have C1 := Hd (YF A1 c1 a HR.out.1.pa wr HR.out.1.ra true (by simp [hab.1]))
    have C2 := Hd (YF A2 c2 b HR.out.1.pb wr HR.out.1.rb true (by simp [hab.2]))
    have C3 := Hd (X9 A1 c1 a (by omega) wr HR.out.1.ra)
    have HAB := Hd hab
    clear hab
    go_wp2_with (first | (go_at_call 276; ((with_reducible refine C1.out.mono ?_); rintro e w' ⟨rfl, rfl⟩)) | (go_at_call 276; ((with_reducible refine C2.out.mono ?_); rintro e w' ⟨rfl, rfl⟩)))
    refine C3.out.mono ?_
    rintro e w1 ⟨v1, rfl, hv1, hb1⟩
    obtain ⟨A3, c3, rfl, r3⟩ := hv1.raw
    have C4 := Hd (X9 A2 c2 b (by omega) w1 (HR.out.1.rb.below hb1))
    have HB1 := Hd hb1
    have R3 := Hd r3
    clear hv1 hb1 C1 C2 C3 r3
    go_wp2_with fail
    refine C4.out.mono ?_
    rintro e w2 ⟨v2, rfl, hv2, hb2⟩
    obtain ⟨A4, c4, rfl, r4⟩ := hv2.raw
    have HN := Hd (show Cm1 w w2 X Y A3 c3 (a / 2) A4 c4 (b / 2) (t + 1) /\ Below W.heap.size W w2 from ⟨HR.out.1.next HAB.out.1 HAB.out.2 (R3.out.below hb2) r4 (Zb (Zb HR.out.1.low HB1.out) hb2), Zb (Zb HR.out.2 HB1.out) hb2⟩)
    have hlt : a / 2 < gk := by have := HR.out.1.pa; have := HKA.out; omega
    clear hv2 hb2 r4 C4 HB1 R3 HR HAB
    go_wp2_with fail
    go_roundg (a / 2)
    case measure => exact hlt
    case rel => exact ⟨A3, c3, a / 2, A4, c4, b / 2, t + 1, rfl, rfl, by go_num, rfl, HN⟩
  . have hodd := odd_of hab
    obtain ⟨g, hg⟩ : ∃ g, g = Nat.gcd a b := ⟨_, rfl⟩
    have HG := Hd (show g * 2 ^ t = Nat.gcd X Y by rw [hg]; exact HR.out.1.gcd)
    have H2 := Hd (show Cm2 w wr g A1 c1 a A2 c2 b 30000 /\ Below W.heap.size W wr from ⟨⟨HR.out.1.ra, HR.out.1.rb, HR.out.1.low, HR.out.1.pb, hodd, hg.symm, la, lb⟩, HR.out.2⟩)
    have C1 := fun b0 hb0 => YF A1 c1 a HR.out.1.pa wr HR.out.1.ra b0 hb0
    have C2 := fun b0 hb0 => YF A2 c2 b HR.out.1.pb wr HR.out.1.rb b0 hb0
    have HT := Hd ht
    by_cases ha : a % 2 = 0
    all_goals
      have hb : a % 2 = 0 -> b % 2 = 1 := by omega
      have C3 := Hd (C1 (a % 2 == 0) rfl)
      have C4 := Hd (C2 (b % 2 == 0) rfl)
      clear C1 C2 hg hab la lb ht hodd HR
    . have C5 : Calls Tryz.prog 276 #[.slice A1 (Za a).length c1] wr fun e w' => e = .returned (.bool true) /\ wr = w' := by
       have := C3.out; rwa [show (a % 2 == 0) = true by simp [ha]] at this
      have C6 : Calls Tryz.prog 276 #[.slice A2 (Za b).length c2] wr fun e w' => e = .returned (.bool false) /\ wr = w' := by
       have := C4.out; rwa [show (b % 2 == 0) = false by simp [hb ha]] at this
      have H5 := Hd C5
      have H6 := Hd C6
      clear C3 C4 C5 C6 ha hb
      go_wp2_with (first | (go_at_call 276; ((with_reducible refine H5.out.mono ?_); rintro e w' ⟨rfl, rfl⟩)) | (go_at_call 276; ((with_reducible refine H6.out.mono ?_); rintro e w' ⟨rfl, rfl⟩)))
      -- LOOP2
      clear H5
      go_loopg [5, 6, 8] (a + b) (fun k v5 v6 v8 wr => ∃ A1 c1 a A2 c2 b, v5 = .slice A1 (Za a).length c1 /\ v6 = .slice A2 (Za b).length c2 /\ Hid (k = a + b) /\ Hid (Cm2 w wr g A1 c1 a A2 c2 b 30000 /\ Below W.heap.size W wr))
      case atStart => exact ⟨A1, c1, a, A2, c2, b, rfl, rfl, Hd rfl, H2⟩
      case round =>
       clear H2
       rename_i HKA0 _ _
       obtain ⟨A1, c1, a, A2, c2, b, rfl, rfl, HKA, HR⟩ := hrel
       rcases Nat.eq_zero_or_pos a with ha | ha
       . subst ha
         have hgb : g = b := by have := HR.out.1.gcd; rw [Nat.gcd_zero_left] at this; exact this.symm
         have hl0 : (Za 0).length = 0 := by simp [Z8]
         rw [hl0]
         have C1 := Xg false A2 c2 (Za b) wr HR.out.1.rb (by rw [Zi]; have := HR.out.1.pb; omega)
         rw [Zi] at C1
         have H1 := Hd C1
         have HGB := Hd hgb
         have hnb : Za b ≠ [] := fun h0 => by have := Ym.1 h0; have := HR.out.1.pb; omega
         have hlb := HR.out.1.lb
         clear C1 hgb hl0
         go_wp2_with fail
         refine H1.out.mono ?_
         rintro e w1 ⟨rfl, hb1⟩
         have C2 := Hd (ref_Double_z false A2 c2 t (Za b) hnb (by have := HT.out; omega) (by omega) ((Nat.gcd X Y : Nat) : Int) (Hd (by rw [Zi, <- HGB.out, HG.out]; rfl)) w1 (HR.out.1.rb.below hb1))
         have HB1 := Hd hb1
         clear hb1 H1
         go_wp2_with fail
         refine C2.out.mono ?_
         rintro e w2 ⟨v2, rfl, hv2, hb2⟩
         have hW2 := Zb (Zb HR.out.2 HB1.out) hb2
         have pr := PR.out.below hW2
         obtain ⟨l3, q0, q1, r0, r1⟩ := pr.facts
         obtain ⟨A3, c3, rfl, o3⟩ := hv2.nat
         have HO := Hd ((o3.pair pr (.bool false) (.slice A3 (Za (Nat.gcd X Y)).length c3)).int.base (show w.heap.size <= w1.heap.size from Nat.le_trans B0.out.size (Zb HR.out.2 HB1.out).size))
         have HB := Hd (ZW (Zb B0.out hW2) (show w.heap.size <= w.heap.size + 2 by omega) (.bool false) (.slice A3 (Za (Nat.gcd X Y)).length c3))
         have HQ := Hd (pr.store (.bool false) (.slice A3 (Za (Nat.gcd X Y)).length c3))
         clear hv2 hb2 o3 C2 pr hW2
         go_wp2_with fail
         obtain ⟨_, k0, k1, _, _⟩ := HQ.out.facts
         exact bodyPost_ret (by simp [results, Tryz.results259, go_sem, k0, k1]) rfl ⟨_, rfl, HO.out, HB.out⟩
       . have hla : decide (0 < (Za a).length) = true := decide_eq_true (X0 ha)
         have hlen1 := HR.out.1.la
         have hlen2 := HR.out.1.lb
         obtain ⟨wo, hwo⟩ : ∃ wo : World, wo = wr := ⟨_, rfl⟩
         rw [<- hwo] at HR ⊢
         clear hwo
         go_wp2_with fail
         go_loopg [5] (a) (fun k v5 wr => ∃ A1 c1 a', v5 = .slice A1 (Za a').length c1 /\ Hid (k = a') /\ Hid (Cm2 w wr g A1 c1 a' A2 c2 b 30000 /\ 0 < a' /\ a' <= a /\ Below W.heap.size W wr))
         case atStart => exact ⟨A1, c1, a, rfl, Hd rfl, Hd ⟨HR.out.1, ha, Nat.le_refl _, HR.out.2⟩⟩
         case round =>
          obtain ⟨A3, c3, a3, rfl, HK3, HR3⟩ := hrel
          have hl3 := HR3.out.1.la
          by_cases ha2 : a3 % 2 = 0
          . have C1 := Hd (YF A3 c3 a3 HR3.out.2.1 wr HR3.out.1.ra true (by simp [ha2]))
            have C2 := Hd (X9 A3 c3 a3 (by omega) wr HR3.out.1.ra)
            have HA2 := Hd ha2
            clear ha2
            go_wp2_with (first | (go_at_call 276; ((with_reducible refine C1.out.mono ?_); rintro e w' ⟨rfl, rfl⟩)))
            refine C2.out.mono ?_
            rintro e w1 ⟨v1, rfl, hv1, hb1⟩
            obtain ⟨A4, c4, rfl, r4⟩ := hv1.raw
            have hpos := HR3.out.2.1
            have hle3 := HR3.out.2.2.1
            have he3 := HA2.out
            have HN := Hd (show Cm2 w w1 g A4 c4 (a3 / 2) A2 c2 b 30000 /\ 0 < a3 / 2 /\ a3 / 2 <= a /\ Below W.heap.size W w1 from ⟨HR3.out.1.halfa HA2.out r4 hb1, by omega, by omega, Zb HR3.out.2.2.2 hb1⟩)
            have HM := Hd (show a3 / 2 < a3 by omega)
            clear hv1 hb1 r4 C1 C2 he3 hpos hle3
            go_wp2_with fail
            go_roundg (a3 / 2)
            case measure => rw [HK3.out]; exact HM.out
            case rel => exact ⟨A4, c4, a3 / 2, rfl, Hd rfl, HN⟩
          . have ho3 : a3 % 2 = 1 := by omega
            have C1 := Hd (YF A3 c3 a3 HR3.out.2.1 wr HR3.out.1.ra false (by simp [ho3]))
            have HO3 := Hd ho3
            clear ha2 ho3
            go_wp2_with (first | (go_at_call 276; ((with_reducible refine C1.out.mono ?_); rintro e w' ⟨rfl, rfl⟩)))
            obtain ⟨wq, hwq⟩ : ∃ wq : World, wq = wr := ⟨_, rfl⟩
            rw [<- hwq] at HR3 ⊢
            clear hwq C1
            go_loopg [6] (b) (fun k v6 wr => ∃ A2 c2 b', v6 = .slice A2 (Za b').length c2 /\ Hid (k = b') /\ Hid (Cm2 w wr g A3 c3 a3 A2 c2 b' 30000 /\ b' <= b /\ Below W.heap.size W wr))
            case atStart => exact ⟨A2, c2, b, rfl, Hd rfl, Hd ⟨HR3.out.1, Nat.le_refl _, HR3.out.2.2.2⟩⟩
            case round =>
             obtain ⟨A4, c4, b4, rfl, HK4, HR4⟩ := hrel
             have hl4 := HR4.out.1.lb
             by_cases hb2 : b4 % 2 = 0
             . have C1 := Hd (YF A4 c4 b4 HR4.out.1.pb wr HR4.out.1.rb true (by simp [hb2]))
               have C2 := Hd (X9 A4 c4 b4 (by omega) wr HR4.out.1.rb)
               have HB2 := Hd hb2
               clear hb2
               go_wp2_with (first | (go_at_call 276; ((with_reducible refine C1.out.mono ?_); rintro e w' ⟨rfl, rfl⟩)))
               refine C2.out.mono ?_
               rintro e w1 ⟨v1, rfl, hv1, hb1⟩
               obtain ⟨A5, c5, rfl, r5⟩ := hv1.raw
               have hpos := HR4.out.1.pb
               have hle4 := HR4.out.2.1
               have he4 := HB2.out
               have HN := Hd (show Cm2 w w1 g A3 c3 a3 A5 c5 (b4 / 2) 30000 /\ b4 / 2 <= b /\ Below W.heap.size W w1 from ⟨HR4.out.1.halfb HB2.out r5 hb1, by omega, Zb HR4.out.2.2 hb1⟩)
               have HM := Hd (show b4 / 2 < b4 by omega)
               clear hv1 hb1 r5 C1 C2 he4 hpos hle4
               go_wp2_with fail
               go_roundg (b4 / 2)
               case measure => rw [HK4.out]; exact HM.out
               case rel => exact ⟨A5, c5, b4 / 2, rfl, Hd rfl, HN⟩
             . have ho4 : b4 % 2 = 1 := by omega
               have C1 := Hd (YF A4 c4 b4 HR4.out.1.pb wr HR4.out.1.rb false (by simp [ho4]))
               have C2 := Hd (Jn A3 A4 c3 c4 (Za a3) (Za b4) (ZB _) (ZB _) wr HR4.out.1.ra HR4.out.1.rb)
               have HO4 := Hd ho4
               clear hb2 ho4
               go_wp2_with (first | (go_at_call 276; ((with_reducible refine C1.out.mono ?_); rintro e w' ⟨rfl, rfl⟩)))
               refine C2.out.mono ?_
               rintro e w1 ⟨rfl, hb1⟩
               obtain ⟨z, hze⟩ : ∃ z, z = YE (val (Za a3)) (val (Za b4)) := ⟨_, rfl⟩
               rw [<- hze]
               have hz2 : a3 < b4 ↔ z < 0 := by
                 rw [hze, Zi, Zi]
                 unfold YE
                 split <;> (try split) <;> omega
               have RA := Hd (HR4.out.1.ra.below hb1)
               have RB := Hd (HR4.out.1.rb.below hb1)
               have HL := Hd (Zb HR4.out.1.low hb1)
               have HW := Hd (Zb HR4.out.2.2 hb1)
               have hp4 := HR4.out.1.pb
               have hl3' := HR4.out.1.la
               have hle3 := HR3.out.2.2.1
               have hle4 := HR4.out.2.1
               have hpo3 := HR3.out.2.1
               have HGC := Hd HR4.out.1.gcd
               clear hze C1 C2 hb1
               by_cases hlt : a3 < b4
               . have hd : decide (z < 0) = true := by simp; omega
                 have C3 := ref_subN A4 A3 c4 c3 (Za b4) (Za a3) (Yu (Nat.le_of_lt hlt)) (by rw [Zi, Zi]; omega) (by omega) w1 RB.out RA.out
                 rw [Zi, Zi] at C3
                 have H3 := Hd C3
                 have HLT := Hd hlt
                 clear hz2 C3 hlt
                 go_wp2_with fail
                 refine H3.out.mono ?_
                 rintro e w2 ⟨v2, rfl, hv2, hb2⟩
                 obtain ⟨A6, c6, rfl, r6⟩ := hv2.raw
                 have hlt := HLT.out
                 have HN := Hd (show Cm2 w w2 g A6 c6 (b4 - a3) A3 c3 a3 30000 /\ Below W.heap.size W w2 from ⟨⟨r6, RA.out.below hb2, Zb HL.out hb2, hpo3, .inr HO3.out, by rw [gcd_less (Nat.le_of_lt hlt), Nat.gcd_comm]; exact HGC.out, Nat.le_trans (Yu (Nat.sub_le _ _)) hl4, hl3'⟩, Zb HW.out hb2⟩)
                 have HM := Hd (show b4 - a3 + a3 < a + b by omega)
                 clear hv2 hb2 r6 H3 hlt
                 go_wp2_with fail
                 go_roundg (b4 - a3 + a3)
                 case measure => rw [HKA.out]; exact HM.out
                 case rel => exact ⟨A6, c6, b4 - a3, A3, c3, a3, rfl, rfl, Hd rfl, HN⟩
               . have hd : decide (z < 0) = false := by simp; omega
                 have C3 := ref_subN A3 A4 c3 c4 (Za a3) (Za b4) (Yu (by omega)) (by rw [Zi, Zi]; omega) (by omega) w1 RA.out RB.out
                 rw [Zi, Zi] at C3
                 have H3 := Hd C3
                 have HLT := Hd hlt
                 clear hz2 C3 hlt
                 go_wp2_with fail
                 refine H3.out.mono ?_
                 rintro e w2 ⟨v2, rfl, hv2, hb2⟩
                 obtain ⟨A6, c6, rfl, r6⟩ := hv2.raw
                 have hlt := HLT.out
                 have HN := Hd (show Cm2 w w2 g A6 c6 (a3 - b4) A4 c4 b4 30000 /\ Below W.heap.size W w2 from ⟨⟨r6, RB.out.below hb2, Zb HL.out hb2, hp4, .inr HO4.out, by rw [gcd_less (by omega)]; exact HGC.out, Nat.le_trans (Yu (Nat.sub_le _ _)) hl3', hl4⟩, Zb HW.out hb2⟩)
                 have HM := Hd (show a3 - b4 + b4 < a + b by omega)
                 clear hv2 hb2 r6 H3 hlt
                 go_wp2_with fail
                 go_roundg (a3 - b4 + b4)
                 case measure => rw [HKA.out]; exact HM.out
                 case rel => exact ⟨A6, c6, a3 - b4, A4, c4, b4, rfl, rfl, Hd rfl, HN⟩
    . have C5 : Calls Tryz.prog 276 #[.slice A1 (Za a).length c1] wr fun e w' => e = .returned (.bool false) /\ wr = w' := by
       have := C3.out; rwa [show (a % 2 == 0) = false by simp; omega] at this
      have H5 := Hd C5
      clear C3 C4 C5 ha hb
      go_wp2_with (first | (go_at_call 276; ((with_reducible refine H5.out.mono ?_); rintro e w' ⟨rfl, rfl⟩)))
      -- LOOP2
      clear H5
      go_loopg [5, 6, 8] (a + b) (fun k v5 v6 v8 wr => ∃ A1 c1 a A2 c2 b, v5 = .slice A1 (Za a).length c1 /\ v6 = .slice A2 (Za b).length c2 /\ Hid (k = a + b) /\ Hid (Cm2 w wr g A1 c1 a A2 c2 b 30000 /\ Below W.heap.size W wr))
      case atStart => exact ⟨A1, c1, a, A2, c2, b, rfl, rfl, Hd rfl, H2⟩
      case round =>
       clear H2
       rename_i HKA0 _ _
       obtain ⟨A1, c1, a, A2, c2, b, rfl, rfl, HKA, HR⟩ := hrel
       rcases Nat.eq_zero_or_pos a with ha | ha
       . subst ha
         have hgb : g = b := by have := HR.out.1.gcd; rw [Nat.gcd_zero_left] at this; exact this.symm
         have hl0 : (Za 0).length = 0 := by simp [Z8]
         rw [hl0]
         have C1 := Xg false A2 c2 (Za b) wr HR.out.1.rb (by rw [Zi]; have := HR.out.1.pb; omega)
         rw [Zi] at C1
         have H1 := Hd C1
         have HGB := Hd hgb
         have hnb : Za b ≠ [] := fun h0 => by have := Ym.1 h0; have := HR.out.1.pb; omega
         have hlb := HR.out.1.lb
         clear C1 hgb hl0
         go_wp2_with fail
         refine H1.out.mono ?_
         rintro e w1 ⟨rfl, hb1⟩
         have C2 := Hd (ref_Double_z false A2 c2 t (Za b) hnb (by have := HT.out; omega) (by omega) ((Nat.gcd X Y : Nat) : Int) (Hd (by rw [Zi, <- HGB.out, HG.out]; rfl)) w1 (HR.out.1.rb.below hb1))
         have HB1 := Hd hb1
         clear hb1 H1
         go_wp2_with fail
         refine C2.out.mono ?_
         rintro e w2 ⟨v2, rfl, hv2, hb2⟩
         have hW2 := Zb (Zb HR.out.2 HB1.out) hb2
         have pr := PR.out.below hW2
         obtain ⟨l3, q0, q1, r0, r1⟩ := pr.facts
         obtain ⟨A3, c3, rfl, o3⟩ := hv2.nat
         have HO := Hd ((o3.pair pr (.bool false) (.slice A3 (Za (Nat.gcd X Y)).length c3)).int.base (show w.heap.size <= w1.heap.size from Nat.le_trans B0.out.size (Zb HR.out.2 HB1.out).size))
         have HB := Hd (ZW (Zb B0.out hW2) (show w.heap.size <= w.heap.size + 2 by omega) (.bool false) (.slice A3 (Za (Nat.gcd X Y)).length c3))
         have HQ := Hd (pr.store (.bool false) (.slice A3 (Za (Nat.gcd X Y)).length c3))
         clear hv2 hb2 o3 C2 pr hW2
         go_wp2_with fail
         obtain ⟨_, k0, k1, _, _⟩ := HQ.out.facts
         exact bodyPost_ret (by simp [results, Tryz.results259, go_sem, k0, k1]) rfl ⟨_, rfl, HO.out, HB.out⟩
       . have hla : decide (0 < (Za a).length) = true := decide_eq_true (X0 ha)
         have hlen1 := HR.out.1.la
         have hlen2 := HR.out.1.lb
         obtain ⟨wo, hwo⟩ : ∃ wo : World, wo = wr := ⟨_, rfl⟩
         rw [<- hwo] at HR ⊢
         clear hwo
         go_wp2_with fail
         go_loopg [5] (a) (fun k v5 wr => ∃ A1 c1 a', v5 = .slice A1 (Za a').length c1 /\ Hid (k = a') /\ Hid (Cm2 w wr g A1 c1 a' A2 c2 b 30000 /\ 0 < a' /\ a' <= a /\ Below W.heap.size W wr))
         case atStart => exact ⟨A1, c1, a, rfl, Hd rfl, Hd ⟨HR.out.1, ha, Nat.le_refl _, HR.out.2⟩⟩
         case round =>
          obtain ⟨A3, c3, a3, rfl, HK3, HR3⟩ := hrel
          have hl3 := HR3.out.1.la
          by_cases ha2 : a3 % 2 = 0
          . have C1 := Hd (YF A3 c3 a3 HR3.out.2.1 wr HR3.out.1.ra true (by simp [ha2]))
            have C2 := Hd (X9 A3 c3 a3 (by omega) wr HR3.out.1.ra)
            have HA2 := Hd ha2
            clear ha2
            go_wp2_with (first | (go_at_call 276; ((with_reducible refine C1.out.mono ?_); rintro e w' ⟨rfl, rfl⟩)))
            refine C2.out.mono ?_
            rintro e w1 ⟨v1, rfl, hv1, hb1⟩
            obtain ⟨A4, c4, rfl, r4⟩ := hv1.raw
            have hpos := HR3.out.2.1
            have hle3 := HR3.out.2.2.1
            have he3 := HA2.out
            have HN := Hd (show Cm2 w w1 g A4 c4 (a3 / 2) A2 c2 b 30000 /\ 0 < a3 / 2 /\ a3 / 2 <= a /\ Below W.heap.size W w1 from ⟨HR3.out.1.halfa HA2.out r4 hb1, by omega, by omega, Zb HR3.out.2.2.2 hb1⟩)
            have HM := Hd (show a3 / 2 < a3 by omega)
            clear hv1 hb1 r4 C1 C2 he3 hpos hle3
            go_wp2_with fail
            go_roundg (a3 / 2)
            case measure => rw [HK3.out]; exact HM.out
            case rel => exact ⟨A4, c4, a3 / 2, rfl, Hd rfl, HN⟩
          . have ho3 : a3 % 2 = 1 := by omega
            have C1 := Hd (YF A3 c3 a3 HR3.out.2.1 wr HR3.out.1.ra false (by simp [ho3]))
            have HO3 := Hd ho3
            clear ha2 ho3
            go_wp2_with (first | (go_at_call 276; ((with_reducible refine C1.out.mono ?_); rintro e w' ⟨rfl, rfl⟩)))
            obtain ⟨wq, hwq⟩ : ∃ wq : World, wq = wr := ⟨_, rfl⟩
            rw [<- hwq] at HR3 ⊢
            clear hwq C1
            go_loopg [6] (b) (fun k v6 wr => ∃ A2 c2 b', v6 = .slice A2 (Za b').length c2 /\ Hid (k = b') /\ Hid (Cm2 w wr g A3 c3 a3 A2 c2 b' 30000 /\ b' <= b /\ Below W.heap.size W wr))
            case atStart => exact ⟨A2, c2, b, rfl, Hd rfl, Hd ⟨HR3.out.1, Nat.le_refl _, HR3.out.2.2.2⟩⟩
            case round =>
             obtain ⟨A4, c4, b4, rfl, HK4, HR4⟩ := hrel
             have hl4 := HR4.out.1.lb
             by_cases hb2 : b4 % 2 = 0
             . have C1 := Hd (YF A4 c4 b4 HR4.out.1.pb wr HR4.out.1.rb true (by simp [hb2]))
               have C2 := Hd (X9 A4 c4 b4 (by omega) wr HR4.out.1.rb)
               have HB2 := Hd hb2
               clear hb2
               go_wp2_with (first | (go_at_call 276; ((with_reducible refine C1.out.mono ?_); rintro e w' ⟨rfl, rfl⟩)))
               refine C2.out.mono ?_
               rintro e w1 ⟨v1, rfl, hv1, hb1⟩
               obtain ⟨A5, c5, rfl, r5⟩ := hv1.raw
               have hpos := HR4.out.1.pb
               have hle4 := HR4.out.2.1
               have he4 := HB2.out
               have HN := Hd (show Cm2 w w1 g A3 c3 a3 A5 c5 (b4 / 2) 30000 /\ b4 / 2 <= b /\ Below W.heap.size W w1 from ⟨HR4.out.1.halfb HB2.out r5 hb1, by omega, Zb HR4.out.2.2 hb1⟩)
               have HM := Hd (show b4 / 2 < b4 by omega)
               clear hv1 hb1 r5 C1 C2 he4 hpos hle4
               go_wp2_with fail
               go_roundg (b4 / 2)
               case measure => rw [HK4.out]; exact HM.out
               case rel => exact ⟨A5, c5, b4 / 2, rfl, Hd rfl, HN⟩
             . have ho4 : b4 % 2 = 1 := by omega
               have C1 := Hd (YF A4 c4 b4 HR4.out.1.pb wr HR4.out.1.rb false (by simp [ho4]))
               have C2 := Hd (Jn A3 A4 c3 c4 (Za a3) (Za b4) (ZB _) (ZB _) wr HR4.out.1.ra HR4.out.1.rb)
               have HO4 := Hd ho4
               clear hb2 ho4
               go_wp2_with (first | (go_at_call 276; ((with_reducible refine C1.out.mono ?_); rintro e w' ⟨rfl, rfl⟩)))
               refine C2.out.mono ?_
               rintro e w1 ⟨rfl, hb1⟩
               obtain ⟨z, hze⟩ : ∃ z, z = YE (val (Za a3)) (val (Za b4)) := ⟨_, rfl⟩
               rw [<- hze]
               have hz2 : a3 < b4 ↔ z < 0 := by
                 rw [hze, Zi, Zi]
                 unfold YE
                 split <;> (try split) <;> omega
               have RA := Hd (HR4.out.1.ra.below hb1)
               have RB := Hd (HR4.out.1.rb.below hb1)
               have HL := Hd (Zb HR4.out.1.low hb1)
               have HW := Hd (Zb HR4.out.2.2 hb1)
               have hp4 := HR4.out.1.pb
               have hl3' := HR4.out.1.la
               have hle3 := HR3.out.2.2.1
               have hle4 := HR4.out.2.1
               have hpo3 := HR3.out.2.1
               have HGC := Hd HR4.out.1.gcd
               clear hze C1 C2 hb1
               by_cases hlt : a3 < b4
               . have hd : decide (z < 0) = true := by simp; omega
                 have C3 := ref_subN A4 A3 c4 c3 (Za b4) (Za a3) (Yu (Nat.le_of_lt hlt)) (by rw [Zi, Zi]; omega) (by omega) w1 RB.out RA.out
                 rw [Zi, Zi] at C3
                 have H3 := Hd C3
                 have HLT := Hd hlt
                 clear hz2 C3 hlt
                 go_wp2_with fail
                 refine H3.out.mono ?_
                 rintro e w2 ⟨v2, rfl, hv2, hb2⟩
                 obtain ⟨A6, c6, rfl, r6⟩ := hv2.raw
                 have hlt := HLT.out
                 have HN := Hd (show Cm2 w w2 g A6 c6 (b4 - a3) A3 c3 a3 30000 /\ Below W.heap.size W w2 from ⟨⟨r6, RA.out.below hb2, Zb HL.out hb2, hpo3, .inr HO3.out, by rw [gcd_less (Nat.le_of_lt hlt), Nat.gcd_comm]; exact HGC.out, Nat.le_trans (Yu (Nat.sub_le _ _)) hl4, hl3'⟩, Zb HW.out hb2⟩)
                 have HM := Hd (show b4 - a3 + a3 < a + b by omega)
                 clear hv2 hb2 r6 H3 hlt
                 go_wp2_with fail
                 go_roundg (b4 - a3 + a3)
                 case measure => rw [HKA.out]; exact HM.out
                 case rel => exact ⟨A6, c6, b4 - a3, A3, c3, a3, rfl, rfl, Hd rfl, HN⟩
               . have hd : decide (z < 0) = false := by simp; omega
                 have C3 := ref_subN A3 A4 c3 c4 (Za a3) (Za b4) (Yu (by omega)) (by rw [Zi, Zi]; omega) (by omega) w1 RA.out RB.out
                 rw [Zi, Zi] at C3
                 have H3 := Hd C3
                 have HLT := Hd hlt
                 clear hz2 C3 hlt
                 go_wp2_with fail
                 refine H3.out.mono ?_
                 rintro e w2 ⟨v2, rfl, hv2, hb2⟩
                 obtain ⟨A6, c6, rfl, r6⟩ := hv2.raw
                 have hlt := HLT.out
                 have HN := Hd (show Cm2 w w2 g A6 c6 (a3 - b4) A4 c4 b4 30000 /\ Below W.heap.size W w2 from ⟨⟨r6, RB.out.below hb2, Zb HL.out hb2, hp4, .inr HO4.out, by rw [gcd_less (by omega)]; exact HGC.out, Nat.le_trans (Yu (Nat.sub_le _ _)) hl3', hl4⟩, Zb HW.out hb2⟩)
                 have HM := Hd (show a3 - b4 + b4 < a + b by omega)
                 clear hv2 hb2 r6 H3 hlt
                 go_wp2_with fail
                 go_roundg (a3 - b4 + b4)
                 case measure => rw [HKA.out]; exact HM.out
                 case rel => exact ⟨A6, c6, a3 - b4, A4, c4, b4, rfl, rfl, Hd rfl, HN⟩

structure Held2 (w wr : World) (ba bb : Nat) (A1 : Option Addr) (c1 x : Nat) (A2 : Option Addr) (c2 y : Nat) : Prop where
 pa : Zr wr ba 24 (.bool false) (.slice A1 (Za x).length c1)
 pb : Zr wr bb 24 (.bool false) (.slice A2 (Za y).length c2)
 one : Yx wr w.heap.size (.slice A1 (Za x).length c1) x
 two : Yx wr w.heap.size (.slice A2 (Za y).length c2) y
 low : Below w.heap.size w wr
 la : w.heap.size + 3 <= ba
 lb : w.heap.size + 3 <= bb
 ne : ba ≠ bb
 res : Zr wr (w.heap.size + 2) 24 (.bool false) (.slice none 0 0)
theorem Yx.drew {w : World} {base n : Nat} {v : Value} (h : Yx w base v n) : Yx w.drew base v n := h.below (Below.refl _ _).drew
theorem Held2.drew {w wr : World} {ba bb : Nat} {A1 A2 : Option Addr} {c1 x c2 y : Nat} (h : Held2 w wr ba bb A1 c1 x A2 c2 y) : Held2 w wr.drew ba bb A1 c1 x A2 c2 y :=
 ⟨h.pa.drew, h.pb.drew, h.one.drew, h.two.drew, h.low.drew, h.la, h.lb, h.ne, h.res.drew⟩

theorem exact_Common (n1 n2 : Bool) (A B : Option Addr) (c d : Nat) (xs ys : List Nat) (hlx : xs.length <= 536870912) (hly : ys.length <= 536870912) (w : World) (h : Zm w A c xs) (g : Zm w B d ys) :
   Calls Tryz.prog 107 #[.agg #[.bool n1, .slice A xs.length c], .agg #[.bool n2, .slice B ys.length d]] w (ZY w.heap.size w ((Nat.gcd (val xs) (val ys) : Nat) : Int)) := by
 have px := ((Zr.new w 24 (.bool n1) (.slice A xs.length c)).alloc (.cells #[.bool n2, .slice B ys.length d] 24)).alloc (.cells #[.bool false, .slice none 0 0] 24)
 have py := (Zr.new (w.alloc (.cells #[.bool n1, .slice A xs.length c] 24)) 24 (.bool n2) (.slice B ys.length d)).alloc (.cells #[.bool false, .slice none 0 0] 24)
 have pr := Zr.new ((w.alloc (.cells #[.bool n1, .slice A xs.length c] 24)).alloc (.cells #[.bool n2, .slice B ys.length d] 24)) 24 (.bool false) (.slice none 0 0)
 have rx := (((h.alloc (.cells #[.bool n1, .slice A xs.length c] 24)).alloc (.cells #[.bool n2, .slice B ys.length d] 24)).alloc (.cells #[.bool false, .slice none 0 0] 24))
 have ry := (((g.alloc (.cells #[.bool n1, .slice A xs.length c] 24)).alloc (.cells #[.bool n2, .slice B ys.length d] 24)).alloc (.cells #[.bool false, .slice none 0 0] 24))
 have b0 := (((Below.refl w.heap.size w).alloc (Nat.le_refl _) (.cells #[.bool n1, .slice A xs.length c] 24)).alloc (by simp) (.cells #[.bool n2, .slice B ys.length d] 24)).alloc (by simp; omega) (.cells #[.bool false, .slice none 0 0] 24)
 simp only [World.size_alloc] at py pr
 have HLX := Hd h.limbs
 have HLY := Hd g.limbs
 clear h g
 go_enter Tryz.func107, Tryz.ntmps107
 go_wp2_with fail
 obtain ⟨W, E⟩ : ∃ W, W = ((w.alloc (.cells #[.bool n1, .slice A xs.length c] 24)).alloc (.cells #[.bool n2, .slice B ys.length d] 24)).alloc (.cells #[.bool false, .slice none 0 0] 24) := ⟨_, rfl⟩
 rw [<- E] at px py pr b0 rx ry ⊢
 have hszW : w.heap.size + 3 <= W.heap.size := by rw [E]; simp
 clear E
 have PX := Hd px
 have PY := Hd py
 have PR := Hd pr
 have B0 := Hd b0
 have H1 := Hd (fun (V : World) (hV : Below W.heap.size W V) => (exact_own false A c xs (by omega) V (rx.below hV)).mono (R' := ZY w.heap.size V ((val xs : Nat) : Int)) (by rintro e w' ⟨v, rfl, hv, hb⟩; exact ⟨v, rfl, hv.base (by have := hV.size; omega), hb⟩))
 have H2 := Hd (fun (V : World) (hV : Below W.heap.size W V) => (exact_own false B d ys (by omega) V (ry.below hV)).mono (R' := ZY w.heap.size V ((val ys : Nat) : Int)) (by rintro e w' ⟨v, rfl, hv, hb⟩; exact ⟨v, rfl, hv.base (by have := hV.size; omega), hb⟩))
 obtain ⟨X, hX⟩ : ∃ X, X = val xs := ⟨_, rfl⟩
 obtain ⟨Y, hY⟩ : ∃ Y, Y = val ys := ⟨_, rfl⟩
 rw [<- hX] at H1
 rw [<- hY] at H2
 have HLx := Hd (show (Za X).length <= 536870912 by rw [hX]; exact Nat.le_trans (YB HLX.out) hlx)
 have HLy := Hd (show (Za Y).length <= 536870912 by rw [hY]; exact Nat.le_trans (YB HLY.out) hly)
 have HXY := Hd (And.intro hX hY)
 clear px py pr rx ry b0 HLX HLY hX hY
 refine Zd [.val (.pointer (some ⟨w.heap.size, 1, none⟩)) [], .val (.slice A xs.length c) [], .any false (fun u V => Zc V w.heap.size u (X : Int)) [],
     .val (.pointer (some ⟨w.heap.size + 1, 1, none⟩)) [], .val (.slice B ys.length d) [], .any false (fun u V => Zc V w.heap.size u (Y : Int)) [], .new 24 2, .new 24 2, .put 24 2 6 2 [], .put 24 2 7 5 []]
   W.heap.size W [24] (fun _ _ => False) _ Zf (Nat.le_refl _) (Below.refl _ _) (Zu.refl _ _ _) rfl ?_ ?_ ?_ ?_ ?_ ?_ ?_ ?_ rfl (by simp [ZP]) ?_ ?_ ?_ ?_
 iterate 8 kernel_rfl
 . simp only [Zy, and_true]
   exact ⟨fun u V V' h k => h.kept k (by decide), fun u V V' h k => h.kept k (by decide)⟩
 . simp only [Z5]
 . simp [ZH, YD, Zg, ZF, Zn]
   repeat' (first | apply And.intro | (intro (u : Value)) | (intro (u : Nat)))
   all_goals try exact ⟨_, _, _, rfl, rfl, rfl, rfl, intInfo⟩
   all_goals try exact allocInt rfl
   all_goals first
   | (intro V hV hK
      obtain ⟨-, -, a1, -, -⟩ := (PX.out.below hV).facts
      obtain ⟨-, -, b1, -, -⟩ := (PY.out.below hV).facts
      have HV := Hd hV
      clear hV
      go_simp
      first
      | exact Below.refl _ _
      | ((with_reducible refine (H1.out V HV.out).mono ?_); rintro _ _ ⟨_, rfl, x⟩; exact x)
      | ((with_reducible refine (H2.out V HV.out).mono ?_); rintro _ _ ⟨_, rfl, x⟩; exact x))
   | exact fun _ _ _ (h : Zc _ _ _ _) => h.cells
 . simp [YH, ZK, Zg, ZF, Zn]
   intro u v ba hba bb hbb V hV hK h1 h2 p1 p2 _ _ hne
   have hne2 : ba ≠ bb := by
     intro e
     subst e
     exact hne.new 6 7 rfl rfl (by decide) rfl
   obtain ⟨A1, c1, rfl, o1⟩ := h1.nat
   obtain ⟨A2, c2, rfl, o2⟩ := h2.nat
   have HH := Hd (show Held2 w V ba bb A1 c1 X A2 c2 Y from ⟨⟨p1⟩, ⟨p2⟩, o1, o2, Zb B0.out hV, by omega, by omega, hne2, PR.out.below hV⟩)
   clear h1 h2 p1 p2 hne hne2 o1 o2 hV hK hba hbb
   go_wp2_with fail
   go_loopg [] (Y) (fun k wr => ∃ A1 c1 x A2 c2, Hid (Held2 w wr ba bb A1 c1 x A2 c2 k /\ Nat.gcd x k = Nat.gcd X Y /\ (Za x).length <= 536870912 /\ (Za k).length <= 536870912))
   case atStart => exact ⟨A1, c1, X, A2, c2, Hd ⟨HH.out, rfl, HLx.out, HLy.out⟩⟩
   case round =>
     clear HH
     obtain ⟨A1, c1, x, A2, c2, HR⟩ := hrel
     obtain ⟨hh, hg, hl1, hl2⟩ := HR.out
     have HG := Hd hg
     have HH := Hd hh
     obtain ⟨l1, a0, a1, f0, f1⟩ := hh.pa.facts
     obtain ⟨l2, b0, b1, g0, g1⟩ := hh.pb.facts
     clear HR hh hg
     rcases Nat.eq_zero_or_pos gk with hk | hk
     . subst hk
       have hln : (Za 0).length = 0 := by simp [Z8]
       rw [hln] at b1
       have hone := HH.out.one
       have hlow := HH.out.low
       have hxg : x = Nat.gcd X Y := by rw [<- HG.out, Nat.gcd_zero_right]
       have hres := HH.out.res
       obtain ⟨l3, q0, q1, r0, r1⟩ := hres.facts
       have HO := Hd (hone.pair hres (.bool false) (.slice A1 (Za x).length c1))
       have HB := Hd (ZW hlow (show w.heap.size <= w.heap.size + 2 by omega) (.bool false) (.slice A1 (Za x).length c1))
       have HQ := Hd (hres.store (.bool false) (.slice A1 (Za x).length c1))
       have hfin : Zc ((wr.setCell ⟨w.heap.size + 2, 0, none⟩ (.bool false)).setCell ⟨w.heap.size + 2, 1, none⟩ (.slice A1 (Za x).length c1)) w.heap.size (.agg #[.bool false, .slice A1 (Za x).length c1]) ((Nat.gcd (val xs) (val ys) : Nat) : Int) := by
         rw [<- HXY.out.1, <- HXY.out.2, <- hxg]; exact HO.out.int
       have HF := Hd hfin
       clear hln hone hlow hxg hres HH HG hfin HO
       go_wp2_with fail
       obtain ⟨_, k0, k1, _, _⟩ := HQ.out.facts
       exact bodyPost_ret (by simp [results, Tryz.results107, go_sem, k0, k1]) rfl ⟨_, rfl, HF.out, HB.out⟩
     . have hlk : (0 : Int) < ((Za gk).length : Int) := by
         have : (Za gk).length ≠ 0 := fun h0 => by
           have := Ym.1 (List.eq_nil_of_length_eq_zero h0)
           omega
         omega
       have hne : Za gk ≠ [] := fun h0 => by rw [h0] at hlk; simp at hlk
       have C1 := Hd (exact_Divide false false A1 A2 c1 c2 (Za x) (Za gk) (ZB _) (ZB _) hne (by omega) (by omega) wr HH.out.one.raw_ HH.out.two.raw_)
       go_wp2_with fail
       refine C1.out.mono ?_
       rintro e w1 ⟨v1, v2, rfl, hI, hb⟩
       have hz : (Zv false (Za x)).tmod (Zv false (Za gk)) = ((x % gk : Nat) : Int) := by
         unfold Zv
         simp only [Zi, Bool.false_eq_true, if_false]
         rw [Int.ofNat_tmod]
       obtain ⟨b9, A9, k9, c9, rfl⟩ := hI.one.shape
       have hI2 := hI.two
       rw [hz] at hI2
       obtain ⟨A3, c3, rfl, o3⟩ := hI2.nat
       have HA := Hd (HH.out.pa.below hb)
       have HBb := Hd (HH.out.pb.below hb)
       have HRs := Hd (HH.out.res.below hb)
       have HO2 := Hd (HH.out.two.below hb)
       have HO3 := Hd (o3.base (b' := w.heap.size) HH.out.low.size)
       have HLo := Hd (Zb HH.out.low hb)
       have hs1 := HA.out.size
       have hs2 := HBb.out.size
       clear hz hI hI2 o3 hb l1 a0 a1 f0 f1 l2 b0 b1 g0 g1 C1
       go_wp2_with fail
       obtain ⟨W2, E2⟩ : ∃ W2, W2 = (w1.alloc (.cells #[.bool b9, .slice A9 k9 c9] 24)).alloc (.cells #[.bool false, .slice A3 (Za (x % gk)).length c3] 24) := ⟨_, rfl⟩
       have hp8 := Zr.new (w1.alloc (.cells #[.bool b9, .slice A9 k9 c9] 24)) 24 (.bool false) (.slice A3 (Za (x % gk)).length c3)
       have hb2 := ((Below.refl w1.heap.size w1).alloc (Nat.le_refl _) (.cells #[.bool b9, .slice A9 k9 c9] 24)).alloc (by simp) (.cells #[.bool false, .slice A3 (Za (x % gk)).length c3] 24)
       rw [<- E2] at hp8 hb2 ⊢
       simp only [World.size_alloc] at hp8
       clear E2
       have pa := HA.out.below hb2
       have pb := HBb.out.below hb2
       have o2 := HO2.out.below hb2
       have o3 := HO3.out.below hb2
       have hlw := HLo.out.size
       have hn8 : bb ≠ w1.heap.size + 1 := by omega
       have hn8a : ba ≠ w1.heap.size + 1 := by omega
       have ne := HH.out.ne
       have HN := Hd (show Held2 w ((((W2.setCell ⟨ba, 0, none⟩ (.bool false)).setCell ⟨ba, 1, none⟩ (.slice A2 (Za gk).length c2)).setCell ⟨bb, 0, none⟩ (.bool false)).setCell ⟨bb, 1, none⟩ (.slice A3 (Za (x % gk)).length c3)) ba bb A2 c2 gk A3 c3 (x % gk) from
         ⟨(pa.store _ _).far ne _ _, (pb.far (Ne.symm ne) _ _).store _ _, (o2.pair pa _ _).pair (pb.far (Ne.symm ne) _ _) _ _, (o3.pair pa _ _).pair (pb.far (Ne.symm ne) _ _) _ _,
           ZW (ZW (Zb HLo.out hb2) (by have := HH.out.la; omega) _ _) (by have := HH.out.lb; omega) _ _, HH.out.la, HH.out.lb, ne,
           (((HRs.out.below hb2).far (by have := HH.out.la; omega) _ _).far (by have := HH.out.lb; omega) _ _)⟩)
       have hgc : Nat.gcd gk (x % gk) = Nat.gcd X Y := by
         rw [<- HG.out, Nat.gcd_comm x gk, Nat.gcd_rec gk x, Nat.gcd_comm]
       have hln : (Za (x % gk)).length <= 536870912 := Nat.le_trans (Yu (Nat.le_of_lt (Nat.mod_lt _ hk))) hl2
       have HGC := Hd (And.intro hgc hln)
       have HM := Hd (Nat.mod_lt x hk)
       obtain ⟨m1, a0, a1, f0, f1⟩ := pa.facts
       obtain ⟨m2, b0, b1, g0, g1⟩ := pb.facts
       obtain ⟨m3, d0, d1, -, -⟩ := hp8.facts
       clear pa pb hp8 o2 o3 hgc hln hb2 HA HBb HRs HO2 HO3 HLo HG HH hlw
       go_region
       all_goals (go_wp2_with fail)
       all_goals (go_roundg (x % gk))
       case measure => exact HM.out
       case rel => exact ⟨A2, c2, gk, A3, c3, Hd ⟨HN.out.drew, HGC.out.1, hl2, HGC.out.2⟩⟩

end Go.Proofs.YtdonecnhdkjniaaGreatDoor
