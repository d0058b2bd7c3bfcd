/- Several texts in one: Double, Has, HalfLaw, Halved. -/
import Derived.Test.YtipmkkobdbgphaaGreatDoorPm12
import Derived.Test.YtipmkkobdbgphaaGreatDoorPmHd
import Derived.Test.YtipmkkobdbgphaaGreatDoorPm11
import Derived.Test.YtipmkkobdbgphaaGreatDoorPm14
import Derived.Test.YtipmkkobdbgphaaGreatDoorPm02
import Derived.Test.YtipmkkobdbgphaaGreatDoorPm06
set_option maxRecDepth 100000
set_option maxHeartbeats 8000000
/- Double of package exact: times a power of two. -/
namespace Go.Proofs.YtipmkkobdbgphaaGreatDoor
open Go.RowKit

theorem Row.kept {B : Nat} {Ts : List TypeId} {w w' : World} {g : Nat} {zs : List Nat} (h : Row w g zs) (k : KeptV B Ts w w') (hT : 104 ∉ Ts) : Row w' g zs := ⟨k.blk h.blk hT⟩
structure UpAt (w : World) (u : Value) (L nv : Nat) : Prop where
  ex : ∃ g zs, u = .slice (some ⟨g, 0, none⟩) L L ∧ zs.length = L ∧ Limbs zs ∧ val zs = nv ∧ Row w g zs
theorem UpAt.kept {B : Nat} {Ts : List TypeId} {w w' : World} {u : Value} {L nv : Nat} (h : UpAt w u L nv) (k : KeptV B Ts w w') (hT : 104 ∉ Ts) : UpAt w' u L nv := by
  obtain ⟨g, zs, h1, h2, h3, h4, h5⟩ := h.ex
  exact ⟨g, zs, h1, h2, h3, h4, h5.kept k hT⟩
structure MadeAt (w : World) (base : Nat) (u : Value) (m : Nat) : Prop where
  ex : ∃ g, u = .slice (some ⟨g, 0, none⟩) m m ∧ base ≤ g ∧ Row w g (List.replicate m 0)
theorem MadeAt.kept {B : Nat} {Ts : List TypeId} {w w' : World} {base m : Nat} {u : Value} (h : MadeAt w base u m) (k : KeptV B Ts w w') (hT : 104 ∉ Ts) : MadeAt w' base u m := by
  obtain ⟨g, h1, h2, h3⟩ := h.ex
  exact ⟨g, h1, h2, h3.kept k hT⟩
theorem OwnL.kept {B : Nat} {Ts : List TypeId} {w w' : World} {base n L : Nat} {v : Value} (h : OwnL w base v n L) (k : KeptV B Ts w w') (hT : 104 ∉ Ts) : OwnL w' base v n L := by
  obtain ⟨A, c, zs, h1, h2, h3, h4, h5, h6, h7⟩ := h.form
  exact ⟨A, c, zs, h1, h2, h3, h4, h5, h6, k.own h7 hT⟩
theorem Row.own0 {w : World} {g base n : Nat} {zs : List Nat} (h : Row w g zs) (hb : base ≤ g) (hn : n = zs.length) (hm : n ≤ 70368744177664 := by omega) : w.ownsRow base 104 1 (.slice (some ⟨g, 0, none⟩) n n) n (cellsU zs) := by
  have := h.own hb (n := n) (by omega) (by omega)
  subst hn
  rw [List.take_of_length_le (Nat.le_refl _)] at this
  exact this

theorem exact_Double_z (n1 : Bool) (A : Option Addr) (c n : Nat) (xs : List Nat) (hne : xs ≠ []) (hn : n ≤ 1048576) (hlx : xs.length ≤ 1048576) (z : Int) (HZ : Hid (z = if n1 then -((val xs * 2 ^ n : Nat) : Int) else ((val xs * 2 ^ n : Nat) : Int))) (w : World) (h : Raw w A c xs) :
    Calls Tryz.prog 127 #[.agg #[.bool n1, .slice A xs.length c], .int .i64 n] w (RetInt w.heap.size w z) := by
  have px := (Pair.new w 25 (.bool n1) (.slice A xs.length c)).alloc (.cells #[.bool false, .slice none 0 0] 25)
  have pr := Pair.new (w.alloc (.cells #[.bool n1, .slice A xs.length c] 25)) 25 (.bool false) (.slice none 0 0)
  have b0 := ((Below.refl w.heap.size w).alloc (Nat.le_refl _) (.cells #[.bool n1, .slice A xs.length c] 25)).alloc (by simp) (.cells #[.bool false, .slice none 0 0] 25)
  simp only [World.size_alloc] at pr
  have hlen : ((xs.length : Int) == 0) = false := by
    have : xs.length ≠ 0 := fun e => hne (List.eq_nil_of_length_eq_zero e)
    simp; omega
  have hn0 : (0 : Int) ≤ (n : Int) := by omega
  have hn1 : (n : Int) ≤ 1048576 := by omega
  obtain ⟨m, hm⟩ : ∃ m, m = n / 32 := ⟨_, rfl⟩
  obtain ⟨r, hr⟩ : ∃ r, r = n % 32 := ⟨_, rfl⟩
  have hmi : (n : Int) / 32 = (m : Int) := by omega
  have hri : (n : Int) % 32 = (r : Int) := by omega
  have hrt : (n : Int).tmod 32 = (r : Int) := by rw [Int.tmod_eq_emod_of_nonneg hn0]; exact hri
  have hm2 : m ≤ 32768 := by omega
  have hr2 : r ≤ 31 := by omega
  have HNM := Hd (show n = 32 * m + r by omega)
  obtain ⟨i0, hi, hz0, hz1, hz2⟩ := info_parts limbInfo
  have hmk : ∀ W : World, (Instr.makeSlice 23 (.int .i64 (m : Int)) (.int .i64 (m : Int))).run Tryz.prog W = .ok (.slice (some ⟨W.heap.size, 0, none⟩) m m) (W.alloc (.cells (madeCells #[.int .u32 0] m) 104)) := fun W => by
    have h := run_make_rowN (P := Tryz.prog) 23 104 i0 _ Tryz.underlying23 hi hz0 .i64 .i64 m m (by omega) (by rw [hz2]; omega) (by omega) W
    rw [hz1, Nat.mul_one] at h
    exact h
  have C1 := Hd (fun (V : World) (q : Raw V A c xs) => exact_up A c r xs hr2 (by omega) V q)
  have PX := Hd px
  have PR := Hd pr
  have HX := Hd h
  have B0 := Hd b0
  clear h hne hm hr px pr b0
  go_enter Tryz.func127, Tryz.ntmps127
  have q1 := PX.out.facts
  go_upto_region 3 with fail
  clear q1
  obtain ⟨W, E⟩ : ∃ W, W = (w.alloc (.cells #[.bool n1, .slice A xs.length c] 25)).alloc (.cells #[.bool false, .slice none 0 0] 25) := ⟨_, rfl⟩
  have hWs : W.heap.size = w.heap.size + 2 := by rw [E]; simp
  rw [← E] at PX PR B0 ⊢
  clear E
  have HPX := Hd (fun (V : World) (hV : Below (w.heap.size + 1) W V) => PX.out.blk.below hV (Nat.lt_succ_self _))
  have HS := Hd (fun (V : World) (u : Value) (hu : OwnL V (w.heap.size + 2) u (val xs * 2 ^ n) (m + (xs.length + 1))) => show Calls Tryz.prog 198 #[.bool n1, u] V (RetInt (w.heap.size + 2) V z) from by
    have := exact_signed_own n1 u _ _ (w.heap.size + 2) V hu
    rw [HZ.out]; exact this)
  refine wp_region_free [.val (.pointer (some ⟨w.heap.size, 0, none⟩)) [], .val (.bool n1) [], .val (.int .i64 (n : Int)) [], .val (.int .i64 (m : Int)) [], .any false (fun u V => MadeAt V (w.heap.size + 2) u m) [],
      .val (.pointer (some ⟨w.heap.size, 1, none⟩)) [], .val (.slice A xs.length c) [], .val (.int .i64 (n : Int)) [], .val (.int .i64 (r : Int)) [], .val (.int .u64 (r : Int)) [],
      .any false (fun u V => UpAt V u (xs.length + 1) (val xs * 2 ^ r)) [], .any false (fun u V => OwnL V (w.heap.size + 2) u (val xs * 2 ^ n) (m + (xs.length + 1))) [4, 10],
      .any false (fun u V => IntOwn V (w.heap.size + 2) u z) [11], .old (w.heap.size + 1) 25 #[.bool false, .slice none 0 0] 0 2 12 []]
    (w.heap.size + 1) W [25] (fun _ _ => False) _ mixedOrders2 (by omega) (Below.refl _ _) (KeptV.refl _ _ _) rfl (by kernel_rfl) (by kernel_rfl) (by kernel_rfl) (by kernel_rfl) (by kernel_rfl) (by kernel_rfl) (by kernel_rfl) (by kernel_rfl) rfl (by simp [oldsF]) ?_ ?_ ?_ ?_
  · simp only [StableF, and_true]
    exact ⟨fun u V V' h k => h.kept k (by decide), fun u V V' h k => h.kept k (by decide), fun u V V' h k => h.kept k (by decide), fun u V V' h k => h.kept k (by decide)⟩
  · simp only [OldsF, and_true]
    exact ⟨by omega, by omega, PR.out.blk, by simp⟩
  · simp (maxSteps := 4000000) [StepsF, DepF, freeAct, fill, pairs]
    repeat' (first | apply And.intro | (intro (u : Value)))
    all_goals try exact ⟨_, _, _, rfl, rfl, rfl, rfl, intInfo⟩
    all_goals first
    | (intro V hV hK
       have a0 := (HPX.out V hV).cell 0
       have a1 := (HPX.out V hV).cell 1
       simp at a0 a1
       have hs2 := hK.size
       have hs1 : w.heap.size < V.heap.size := by omega
       have HV := Hd hV
       have HKV := Hd hK
       clear hV hK
       go_simp
       first
       | exact Below.refl _ _
       | exact ⟨by first | rfl | decide | go_num, Below.refl _ _⟩
       | exact ⟨⟨_, rfl, by omega, Row.made V m⟩, (Below.refl _ _).alloc (Nat.le_refl _) _⟩
       | ((with_reducible refine (C1.out V (HX.out.below (B0.out.trans (HV.out.mono (by omega))))).mono ?_); rintro e w' ⟨g, zs, rfl, hg, hzl, hz, hv, hrow, hb⟩; exact ⟨⟨g, zs, rfl, hzl, hz, hv, hrow⟩, hb⟩))
    | (intro V hV hK hu
       clear hV hK
       have HU := Hd (HS.out V _ hu)
       clear hu
       go_simp
       (with_reducible refine HU.out.mono ?_)
       rintro e w' ⟨v, rfl, hv, hb⟩
       exact ⟨hv, hb⟩)
    | exact fun _ _ _ (h : IntOwn _ _ _ _) => h.cells
    | (intro V hV hK
       clear hV hK
       go_simp
       first
       | exact Below.refl _ _
       | exact ⟨by first | exact hrt | rfl | go_num | (rw [IntKind.wrap_i64]; omega) | (rw [IntKind.wrap_u64]; omega), Below.refl _ _⟩)
    | (intro V hV hK h4 h10
       obtain ⟨g4, rfl, hg4, hr4⟩ := h4.ex
       obtain ⟨g10, zs, rfl, hzl, hz, hv, hr10⟩ := h10.ex
       have hbs : w.heap.size + 2 ≤ V.heap.size := by have := hK.size; omega
       clear hV hK h4 h10
       refine wp_append_moves (P := Tryz.prog) V (.tmp 14) (.tmp 20) 23 rfl (w.heap.size + 2) 104 i0 _ 4 Tryz.underlying23 hi hz0 hz1 hz2 rfl g4 m m (cellsU (List.replicate m 0)) rfl (hr4.own0 hg4 (by simp)) ⟨g10, 0, none⟩ (xs.length + 1) _ (cellsU zs) rfl (by simp [cellsU, hzl]) ?_ (cellsU_one _) (by omega) (by unfold maxLen; omega) (by omega) hbs ?_
       · intro j u hj
         obtain ⟨ad, e, _, hc⟩ := hr10.front.reads.2 (by omega)
         obtain rfl := Option.some.inj e
         exact hc j u hj
       · intro v' w' how hb
         refine ⟨v', rfl, ?_, hb⟩
         have e2 : cellsU (List.replicate m 0) ++ cellsU zs = cellsU (List.replicate m 0 ++ zs) := by simp [cellsU]
         have hl1 : Limbs (List.replicate m 0 ++ zs) := limbs_append.2 ⟨limbs_noughts _, hz⟩
         have el : m + (xs.length + 1) = (List.replicate m 0 ++ zs).length := by simp [hzl]
         rw [e2, el] at how
         have hov := (OwnX.of_own hl1 how).ownL
         rw [el]
         have hval1 : val (List.replicate m 0 ++ zs) = val xs * 2 ^ n := by
           rw [val_append, val_noughts, List.length_replicate, hv, HNM.out, Nat.pow_add, Nat.pow_mul]
           rw [show (2 : Nat) ^ 32 = 4294967296 by decide]
           grind
         rw [hval1] at hov
         exact hov)
  · simp [EndF, FactsF, freeAct, fill, pairs]
    intro u4 u10 u11 u V hV hK h4 h10 h11 h12 bq _ _ _
    obtain ⟨A2, c2, rfl, -⟩ := h12.form
    simp [setAll, Value.cells] at bq
    have k0 := bq.cell 0
    have k1 := bq.cell 1
    simp at k0 k1
    have H2 := Hd h12
    have HBV := Hd (B0.out.trans (hV.mono (by omega)))
    clear h4 h10 h11 h12 hV hK
    go_wp2_with fail
    exact bodyPost_ret (by simp [results, Tryz.results127, go_sem, k0, k1]) rfl ⟨_, rfl, H2.out.base (by omega), HBV.out⟩
/- slices.ContainsFunc of limbs: is one of them not nought? -/

/- A number divided by 2^n and rounded down: plain, no program in sight. -/

/- Halved of package exact: divided by 2^n and rounded down. -/

theorem Raw.drop {w : World} {ad : Addr} {c m : Nat} {xs : List Nat} (h : Raw w (some ad) c xs) (hm : m < xs.length) : Raw w (some (ad.add m)) (c - m) (xs.drop m) := by
  have h1 := h.cap
  have h2 := h.most
  refine ⟨limbs_drop h.limbs m, by rw [List.length_drop]; omega, by omega, ?_⟩
  have h3 := Reads.cut h.reads (k := m) (cap := c) (by omega) h1
  rw [if_neg (by omega), Nat.mul_one] at h3
  unfold ReadsU
  rw [List.length_drop]
  have e : (cellsU xs).drop m = cellsU (xs.drop m) := by simp [cellsU]
  rw [e] at h3
  exact h3
end Go.Proofs.YtipmkkobdbgphaaGreatDoor
