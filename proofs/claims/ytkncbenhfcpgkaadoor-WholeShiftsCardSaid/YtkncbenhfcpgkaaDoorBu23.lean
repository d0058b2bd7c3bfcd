/- Several texts in one: Moves, Double, Has. -/
import Derived.Test.YtkncbenhfcpgkaaDoorBu22
import Derived.Test.YtkncbenhfcpgkaaDoorBu01
import Derived.Test.YtkncbenhfcpgkaaDoorBu16
import Derived.Test.YtkncbenhfcpgkaaDoorBuHd
import Derived.Test.YtkncbenhfcpgkaaDoorBu14
import Derived.Test.YtkncbenhfcpgkaaDoorBu12
import Derived.Test.YtkncbenhfcpgkaaDoorBu13
import Derived.Test.YtkncbenhfcpgkaaDoorBu10
import Derived.Test.YtkncbenhfcpgkaaDoorBu09
import Derived.Test.YtkncbenhfcpgkaaDoorBu05
import Derived.Test.YtkncbenhfcpgkaaDoorBu04
import Derived.Test.YtkncbenhfcpgkaaDoorBu03
import Derived.Test.YtkncbenhfcpgkaaDoorBu02
import Derived.Test.YtkncbenhfcpgkaaDoorBu11
import Derived.Test.YtkncbenhfcpgkaaDoorBu06
import Derived.Test.YtkncbenhfcpgkaaDoorBu08
import Derived.Test.YtkncbenhfcpgkaaDoorBu07
import Derived.Test.YtkncbenhfcpgkaaDoorBu15
set_option maxRecDepth 100000
set_option maxHeartbeats 8000000
/- An append that does not fit moves the row. -/
namespace Go.Proofs.YtkncbenhfcpgkaaDoor
open Go.RowKit
section
variable {P : Program} (w : World)
theorem run_append_moves (base : Nat) (t ty e : TypeId) (i : TypeInfo) (z : Value) (bytes : Nat) (ht : P.underlying t = some (.slice e)) (hi : P.info? e = some i) (hz : i.zero = some z)
    (hsize : i.size = 1) (hby : i.bytes = bytes) (hzs : z.cells.size = 1) (g n cap : Nat) (xs : List Value) (hown : w.ownsRow base e 1 (.slice (some ⟨g, 0, none⟩) n cap) n xs)
    (a : Addr) (m c : Nat) (news : List Value) (hlen : news.length = m) (hnews : ∀ j u, news[j]? = some u → w.cell? (a.add j) = some u) (h1 : ∀ u ∈ news, u.oneCell' = true)
    (hroom : ¬ n + m ≤ cap) (h63 : n + m ≤ maxLen) (hbytes : (n + m) * bytes ≤ 140737488355328) (hbase : base ≤ w.heap.size) :
    ∃ v' w', (Builtin.append_ #[t, t] ty #[.slice (some ⟨g, 0, none⟩) n cap, .slice (some a) m c]).run P w = .ok v' w' ∧ w'.ownsRow base e 1 v' (n + m) (xs ++ news) ∧ Below w.heap.size w w' := by
  obtain ⟨v', w', hrun, how, -, -, -⟩ := run_append_own_at (P := P) w base t ty e i z 1 bytes ht hi hz hsize hby hzs (by omega) _ n xs hown a m c news (by omega) hnews h1 h63 hbytes hbase
  refine ⟨v', w', hrun, how, ?_⟩
  have hsmall : n + m ≤ 9223372036854775807 := by simp only [maxLen] at h63; omega
  have holds : ∀ j x, xs[j]? = some x → w.cell? ((⟨g, 0, none⟩ : Addr).add j) = some x := hown.cells (g := g) rfl
  have hr := run_append_grow (P := P) w t ty e i z ht hi hz ⟨g, 0, none⟩ n cap xs (by rw [hsize]; exact hown.1) holds a m c news (by simp [hsize, hlen]) hnews (by omega) (by omega) (by rw [hby]; exact growslice_fits (by omega) hbytes)
  rw [hrun] at hr
  injection hr with e1 e2
  subst e1 e2
  exact (Below.refl _ _).drew.alloc (by simp) _
theorem wp_append_moves {o : Oper} {a : Act} {K : Act → World → Prop} {Q : Exit → Act → World → Prop} (s x : Operand) (t : TypeId)
    (ho : o.op = .call { callee := .builtin .append, args := #[s, x], argTypes := #[t, t] })
    (base : Nat) (e : TypeId) (i : TypeInfo) (z : Value) (bytes : Nat) (ht : P.underlying t = some (.slice e)) (hi : P.info? e = some i) (hz : i.zero = some z)
    (hsize : i.size = 1) (hby : i.bytes = bytes) (hzs : z.cells.size = 1) (g n cap : Nat) (xs : List Value) (hs : a.eval s = .slice (some ⟨g, 0, none⟩) n cap) (hown : w.ownsRow base e 1 (.slice (some ⟨g, 0, none⟩) n cap) n xs)
    (ad : Addr) (m c : Nat) (news : List Value) (hx : a.eval x = .slice (some ad) m c) (hlen : news.length = m) (hnews : ∀ j u, news[j]? = some u → w.cell? (ad.add j) = some u) (h1 : ∀ u ∈ news, u.oneCell' = true)
    (hroom : ¬ n + m ≤ cap) (h63 : n + m ≤ maxLen) (hbytes : (n + m) * bytes ≤ 140737488355328) (hbase : base ≤ w.heap.size)
    (h : ∀ v' w', w'.ownsRow base e 1 v' (n + m) (xs ++ news) → Below w.heap.size w w' → K (a.put o.dst v') w') : o.wp P a w K Q := by
  obtain ⟨v', w', hrun, h2, h3⟩ := run_append_moves (P := P) w base t o.type e i z bytes ht hi hz hsize hby hzs g n cap xs hown ad m c news hlen hnews h1 hroom h63 hbytes hbase
  unfold Oper.wp execOp
  simp only [ho, resolve, invoke, builtin, Sem.run_bind, Sem.run_pure, Result.andThen_ok, List.map_toArray, List.map_cons, List.map_nil, hs, hx, hrun]
  exact h v' w' h2 h3
end
/- Double of package exact: times a power of two. -/

theorem Row.kept {B : Nat} {Ts : List TypeId} {w w' : World} {g : Nat} {zs : List Nat} (h : Row w g zs) (k : KeptV B Ts w w') (hT : 45 ∉ Ts) : Row w' g zs := ⟨k.blk h.blk hT⟩
structure UpAt (w : World) (u : Value) (L nv : Nat) : Prop where
  ex : ∃ g zs, u = .slice (some ⟨g, 0, none⟩) L L ∧ zs.length = L ∧ Limbs zs ∧ val zs = nv ∧ Row w g zs
theorem UpAt.kept {B : Nat} {Ts : List TypeId} {w w' : World} {u : Value} {L nv : Nat} (h : UpAt w u L nv) (k : KeptV B Ts w w') (hT : 45 ∉ Ts) : UpAt w' u L nv := by
  obtain ⟨g, zs, h1, h2, h3, h4, h5⟩ := h.ex
  exact ⟨g, zs, h1, h2, h3, h4, h5.kept k hT⟩
structure MadeAt (w : World) (base : Nat) (u : Value) (m : Nat) : Prop where
  ex : ∃ g, u = .slice (some ⟨g, 0, none⟩) m m ∧ base ≤ g ∧ Row w g (List.replicate m 0)
theorem MadeAt.kept {B : Nat} {Ts : List TypeId} {w w' : World} {base m : Nat} {u : Value} (h : MadeAt w base u m) (k : KeptV B Ts w w') (hT : 45 ∉ Ts) : MadeAt w' base u m := by
  obtain ⟨g, h1, h2, h3⟩ := h.ex
  exact ⟨g, h1, h2, h3.kept k hT⟩
theorem OwnL.kept {B : Nat} {Ts : List TypeId} {w w' : World} {base n L : Nat} {v : Value} (h : OwnL w base v n L) (k : KeptV B Ts w w') (hT : 45 ∉ Ts) : OwnL w' base v n L := by
  obtain ⟨A, c, zs, h1, h2, h3, h4, h5, h6, h7⟩ := h.form
  exact ⟨A, c, zs, h1, h2, h3, h4, h5, h6, k.own h7 hT⟩
theorem Row.own0 {w : World} {g base n : Nat} {zs : List Nat} (h : Row w g zs) (hb : base ≤ g) (hn : n = zs.length) (hm : n ≤ 70368744177664 := by omega) : w.ownsRow base 45 1 (.slice (some ⟨g, 0, none⟩) n n) n (cellsU zs) := by
  have := h.own hb (n := n) (by omega) (by omega)
  subst hn
  rw [List.take_of_length_le (Nat.le_refl _)] at this
  exact this

theorem exact_Double_z (n1 : Bool) (A : Option Addr) (c n : Nat) (xs : List Nat) (hne : xs ≠ []) (hn : n ≤ 1048576) (hlx : xs.length ≤ 1048576) (z : Int) (HZ : Hid (z = if n1 then -((val xs * 2 ^ n : Nat) : Int) else ((val xs * 2 ^ n : Nat) : Int))) (w : World) (h : Raw w A c xs) :
    Calls Tryd.prog 28 #[.agg #[.bool n1, .slice A xs.length c], .int .i64 n] w (RetInt w.heap.size w z) := by
  have px := (Pair.new w 24 (.bool n1) (.slice A xs.length c)).alloc (.cells #[.bool false, .slice none 0 0] 24)
  have pr := Pair.new (w.alloc (.cells #[.bool n1, .slice A xs.length c] 24)) 24 (.bool false) (.slice none 0 0)
  have b0 := ((Below.refl w.heap.size w).alloc (Nat.le_refl _) (.cells #[.bool n1, .slice A xs.length c] 24)).alloc (by simp) (.cells #[.bool false, .slice none 0 0] 24)
  simp only [World.size_alloc] at pr
  have hlen : ((xs.length : Int) == 0) = false := by
    have : xs.length ≠ 0 := fun e => hne (List.eq_nil_of_length_eq_zero e)
    simp; omega
  have hn0 : (0 : Int) ≤ (n : Int) := by omega
  have hn1 : (n : Int) ≤ 1048576 := by omega
  obtain ⟨m, hm⟩ : ∃ m, m = n / 32 := ⟨_, rfl⟩
  obtain ⟨r, hr⟩ : ∃ r, r = n % 32 := ⟨_, rfl⟩
  have hmi : (n : Int) / 32 = (m : Int) := by omega
  have hri : (n : Int) % 32 = (r : Int) := by omega
  have hrt : (n : Int).tmod 32 = (r : Int) := by rw [Int.tmod_eq_emod_of_nonneg hn0]; exact hri
  have hm2 : m ≤ 32768 := by omega
  have hr2 : r ≤ 31 := by omega
  have HNM := Hd (show n = 32 * m + r by omega)
  obtain ⟨i0, hi, hz0, hz1, hz2⟩ := info_parts limbInfo
  have hmk : ∀ W : World, (Instr.makeSlice 22 (.int .i64 (m : Int)) (.int .i64 (m : Int))).run Tryd.prog W = .ok (.slice (some ⟨W.heap.size, 0, none⟩) m m) (W.alloc (.cells (madeCells #[.int .u32 0] m) 45)) := fun W => by
    have h := run_make_rowN (P := Tryd.prog) 22 45 i0 _ Tryd.underlying22 hi hz0 .i64 .i64 m m (by omega) (by rw [hz2]; omega) (by omega) W
    rw [hz1, Nat.mul_one] at h
    exact h
  have C1 := Hd (fun (V : World) (q : Raw V A c xs) => exact_up A c r xs hr2 (by omega) V q)
  have PX := Hd px
  have PR := Hd pr
  have HX := Hd h
  have B0 := Hd b0
  clear h hne hm hr px pr b0
  go_enter Tryd.func28, Tryd.ntmps28
  have q1 := PX.out.facts
  go_upto_region 3 with fail
  clear q1
  obtain ⟨W, E⟩ : ∃ W, W = (w.alloc (.cells #[.bool n1, .slice A xs.length c] 24)).alloc (.cells #[.bool false, .slice none 0 0] 24) := ⟨_, rfl⟩
  have hWs : W.heap.size = w.heap.size + 2 := by rw [E]; simp
  rw [← E] at PX PR B0 ⊢
  clear E
  have HPX := Hd (fun (V : World) (hV : Below (w.heap.size + 1) W V) => PX.out.blk.below hV (Nat.lt_succ_self _))
  have HS := Hd (fun (V : World) (u : Value) (hu : OwnL V (w.heap.size + 2) u (val xs * 2 ^ n) (m + (xs.length + 1))) => show Calls Tryd.prog 33 #[.bool n1, u] V (RetInt (w.heap.size + 2) V z) from by
    have := exact_signed_own n1 u _ _ (w.heap.size + 2) V hu
    rw [HZ.out]; exact this)
  refine wp_region_free [.val (.pointer (some ⟨w.heap.size, 0, none⟩)) [], .val (.bool n1) [], .val (.int .i64 (n : Int)) [], .val (.int .i64 (m : Int)) [], .any false (fun u V => MadeAt V (w.heap.size + 2) u m) [],
      .val (.pointer (some ⟨w.heap.size, 1, none⟩)) [], .val (.slice A xs.length c) [], .val (.int .i64 (n : Int)) [], .val (.int .i64 (r : Int)) [], .val (.int .u64 (r : Int)) [],
      .any false (fun u V => UpAt V u (xs.length + 1) (val xs * 2 ^ r)) [], .any false (fun u V => OwnL V (w.heap.size + 2) u (val xs * 2 ^ n) (m + (xs.length + 1))) [4, 10],
      .any false (fun u V => IntOwn V (w.heap.size + 2) u z) [11], .old (w.heap.size + 1) 24 #[.bool false, .slice none 0 0] 0 2 12 []]
    (w.heap.size + 1) W [24] (fun _ _ => False) _ mixedOrders2 (by omega) (Below.refl _ _) (KeptV.refl _ _ _) rfl (by kernel_rfl) (by kernel_rfl) (by kernel_rfl) (by kernel_rfl) (by kernel_rfl) (by kernel_rfl) (by kernel_rfl) (by kernel_rfl) rfl (by simp [oldsF]) ?_ ?_ ?_ ?_
  · simp only [StableF, and_true]
    exact ⟨fun u V V' h k => h.kept k (by decide), fun u V V' h k => h.kept k (by decide), fun u V V' h k => h.kept k (by decide), fun u V V' h k => h.kept k (by decide)⟩
  · simp only [OldsF, and_true]
    exact ⟨by omega, by omega, PR.out.blk, by simp⟩
  · simp (maxSteps := 4000000) [StepsF, DepF, freeAct, fill, pairs]
    repeat' (first | apply And.intro | (intro (u : Value)))
    all_goals try exact ⟨_, _, _, rfl, rfl, rfl, rfl, intInfo⟩
    all_goals first
    | (intro V hV hK
       have a0 := (HPX.out V hV).cell 0
       have a1 := (HPX.out V hV).cell 1
       simp at a0 a1
       have hs2 := hK.size
       have hs1 : w.heap.size < V.heap.size := by omega
       have HV := Hd hV
       have HKV := Hd hK
       clear hV hK
       go_simp
       first
       | exact Below.refl _ _
       | exact ⟨by first | rfl | decide | go_num, Below.refl _ _⟩
       | exact ⟨⟨_, rfl, by omega, Row.made V m⟩, (Below.refl _ _).alloc (Nat.le_refl _) _⟩
       | ((with_reducible refine (C1.out V (HX.out.below (B0.out.trans (HV.out.mono (by omega))))).mono ?_); rintro e w' ⟨g, zs, rfl, hg, hzl, hz, hv, hrow, hb⟩; exact ⟨⟨g, zs, rfl, hzl, hz, hv, hrow⟩, hb⟩))
    | (intro V hV hK hu
       clear hV hK
       have HU := Hd (HS.out V _ hu)
       clear hu
       go_simp
       (with_reducible refine HU.out.mono ?_)
       rintro e w' ⟨v, rfl, hv, hb⟩
       exact ⟨hv, hb⟩)
    | exact fun _ _ _ (h : IntOwn _ _ _ _) => h.cells
    | (intro V hV hK
       clear hV hK
       go_simp
       first
       | exact Below.refl _ _
       | exact ⟨by first | exact hrt | rfl | go_num | (rw [IntKind.wrap_i64]; omega) | (rw [IntKind.wrap_u64]; omega), Below.refl _ _⟩)
    | (intro V hV hK h4 h10
       obtain ⟨g4, rfl, hg4, hr4⟩ := h4.ex
       obtain ⟨g10, zs, rfl, hzl, hz, hv, hr10⟩ := h10.ex
       have hbs : w.heap.size + 2 ≤ V.heap.size := by have := hK.size; omega
       clear hV hK h4 h10
       refine wp_append_moves (P := Tryd.prog) V (.tmp 14) (.tmp 20) 22 rfl (w.heap.size + 2) 45 i0 _ 4 Tryd.underlying22 hi hz0 hz1 hz2 rfl g4 m m (cellsU (List.replicate m 0)) rfl (hr4.own0 hg4 (by simp)) ⟨g10, 0, none⟩ (xs.length + 1) _ (cellsU zs) rfl (by simp [cellsU, hzl]) ?_ (cellsU_one _) (by omega) (by unfold maxLen; omega) (by omega) hbs ?_
       · intro j u hj
         obtain ⟨ad, e, _, hc⟩ := hr10.front.reads.2 (by omega)
         obtain rfl := Option.some.inj e
         exact hc j u hj
       · intro v' w' how hb
         refine ⟨v', rfl, ?_, hb⟩
         have e2 : cellsU (List.replicate m 0) ++ cellsU zs = cellsU (List.replicate m 0 ++ zs) := by simp [cellsU]
         have hl1 : Limbs (List.replicate m 0 ++ zs) := limbs_append.2 ⟨limbs_noughts _, hz⟩
         have el : m + (xs.length + 1) = (List.replicate m 0 ++ zs).length := by simp [hzl]
         rw [e2, el] at how
         have hov := (OwnX.of_own hl1 how).ownL
         rw [el]
         have hval1 : val (List.replicate m 0 ++ zs) = val xs * 2 ^ n := by
           rw [val_append, val_noughts, List.length_replicate, hv, HNM.out, Nat.pow_add, Nat.pow_mul]
           rw [show (2 : Nat) ^ 32 = 4294967296 by decide]
           grind
         rw [hval1] at hov
         exact hov)
  · simp [EndF, FactsF, freeAct, fill, pairs]
    intro u4 u10 u11 u V hV hK h4 h10 h11 h12 bq _ _ _
    obtain ⟨A2, c2, rfl, -⟩ := h12.form
    simp [setAll, Value.cells] at bq
    have k0 := bq.cell 0
    have k1 := bq.cell 1
    simp at k0 k1
    have H2 := Hd h12
    have HBV := Hd (B0.out.trans (hV.mono (by omega)))
    clear h4 h10 h11 h12 hV hK
    go_wp2_with fail
    exact bodyPost_ret (by simp [results, Tryd.results28, go_sem, k0, k1]) rfl ⟨_, rfl, H2.out.base (by omega), HBV.out⟩
/- slices.ContainsFunc of limbs: is one of them not nought? -/

theorem has_one (x : Nat) (w : World) :
    Calls Tryd.prog 40 #[.int .u32 (x : Int)] w fun e w' => e = .returned (.bool (decide (x ≠ 0))) ∧ Below w.heap.size w w' := by
  by_cases h : x = 0
  · subst h
    go_enter Tryd.func40, Tryd.ntmps40
    go_wp2
    go_ret
    exact ⟨by rfl, by repeat (first | exact Below.refl _ _ | refine Below.alloc ?_ (by simp; try omega) _)⟩
  · have h2 : ((x : Int) != 0) = true := by
      rw [bne_iff_ne]; omega
    have hd : decide (x ≠ 0) = true := decide_eq_true h
    rw [hd]
    obtain ⟨v, hv⟩ : ∃ v : Int, v = (x : Int) := ⟨_, rfl⟩
    rw [← hv] at h2 ⊢
    have h3 : (v == 0) = false := by simpa using h2
    clear hv h hd
    go_enter Tryd.func40, Tryd.ntmps40
    go_wp2
    go_ret
    exact ⟨by first | rfl | go_num | simp [h2] | simp [h3], by repeat (first | exact Below.refl _ _ | refine Below.alloc ?_ (by simp; try omega) _)⟩

theorem index_has (A : Option Addr) (c : Nat) (xs : List Nat) (hl : xs.length ≤ 9223372036854775807) (w : World) (h : ReadsU w w.heap.size A xs) :
    Calls Tryd.prog 55 #[.slice A xs.length c, (.func (.func 40) #[] #[])] w fun e w' => ∃ k : Int, e = .returned (.int .i64 k) ∧ (decide (0 ≤ k) = xs.any fun x => decide (x ≠ 0)) ∧ Below w.heap.size w w' := by
  have HR := Hd h
  clear h
  have H0 := Hd (by intro j hj; omega : ∀ j (hj : j < 0), (h : j < xs.length) → xs[j] = 0)
  go_enter Tryd.func55, Tryd.ntmps55
  go_wp2_with fail
  go_loopw [8] (fun s wr => ∃ i : Nat, s = .int .i64 i ∧ i ≤ xs.length ∧ Hid (∀ j (hj : j < i), (h : j < xs.length) → xs[j] = 0) ∧ Below w.heap.size w wr) (fun s _ => xs.length - (intOf s).toNat)
  case atStart => exact ⟨0, rfl, Nat.zero_le _, H0, Below.refl _ _⟩
  case round =>
    obtain ⟨i, rfl, hi, HN, hb⟩ := hrel
    clear H0
    by_cases hlt : i < xs.length
    · have a0 : (0 : Int) ≤ (i : Int) := by omega
      have a1 : (i : Int) < (xs.length : Int) := by omega
      obtain ⟨ad, rfl, hbl, hx⟩ := ReadsU.get (HR.out.below hb) hlt
      have C := Hd (fun V => has_one xs[i] V)
      have HB := Hd hb
      clear hbl hb
      by_cases hz : xs[i] = 0
      · have HZ := Hd hz
        have e : decide (xs[i] ≠ 0) = false := decide_eq_false (by simpa using hz)
        rw [e] at C
        generalize hX : xs[i] = x at C hx
        have HX := Hd hX
        clear hz e hX
        go_wp2_with (first | (go_at_call 40; with_reducible refine (C.out _).mono ?_; rintro e w' ⟨rfl, hb'⟩))
        go_roundw
        case rel =>
          refine ⟨i + 1, by go_num, hlt, Hd fun j hj h => ?_, belowTo HB.out hb'⟩
          rcases (by omega : j < i ∨ j = i) with hj | rfl
          · exact HN.out j hj h
          · exact HZ.out
        case measure => simp [intOf]; omega
      · have HZ := Hd hz
        have e : decide (xs[i] ≠ 0) = true := decide_eq_true hz
        rw [e] at C
        generalize hX : xs[i] = x at C hx
        have HX := Hd hX
        clear hz e hX
        go_wp2_with (first | (go_at_call 40; with_reducible refine (C.out _).mono ?_; rintro e w' ⟨rfl, hb'⟩))
        go_ret
        refine ⟨_, rfl, ?_, belowTo HB.out hb'⟩
        rw [decide_eq_true (by omega), eq_comm, List.any_eq_true]
        exact ⟨xs[i], List.getElem_mem hlt, decide_eq_true HZ.out⟩
    · have HB := Hd hb
      clear hb
      go_wp2_with fail
      go_ret
      refine ⟨_, rfl, ?_, HB.out⟩
      rw [decide_eq_false (by omega), eq_comm, List.any_eq_false]
      intro x hx
      obtain ⟨j, hj, rfl⟩ := List.getElem_of_mem hx
      simpa using HN.out j (by omega) hj

theorem contains_has (A : Option Addr) (c : Nat) (xs : List Nat) (hl : xs.length ≤ 9223372036854775807) (w : World) (h : ReadsU w w.heap.size A xs) :
    Calls Tryd.prog 39 #[.slice A xs.length c, (.func (.func 40) #[] #[])] w fun e w' => e = .returned (.bool (xs.any fun x => decide (x ≠ 0))) ∧ Below w.heap.size w w' := by
  have C := Hd (index_has A c xs hl w h)
  clear h
  generalize (xs.any fun x => decide (x ≠ 0)) = b at C ⊢
  go_enter Tryd.func39, Tryd.ntmps39
  go_wp2_with fail
  refine C.out.mono ?_
  rintro e w' ⟨k, rfl, rfl, hb⟩
  go_wp2_with fail
  go_ret
  exact ⟨rfl, hb⟩
end Go.Proofs.YtkncbenhfcpgkaaDoor
