/- Several texts in one: OpenGauss, OpenBench, Costs, Lives3, Known. -/
import Derived.Test.YtmcnmoljliggfaaGreatDoorBt32
import Derived.Deep.Strs
set_option maxRecDepth 100000
set_option maxHeartbeats 8000000
/- An api.Gauss that came in, opened. -/
namespace Go.Proofs.YtmcnmoljliggfaaGreatDoor
open Go.ChangeShapes Go.WideShapes Go.ChangeAt Go.RowKit Go.Joins

theorem open_frac_cells {H : Type} {enc : TypeId × Value → H} {w : World} {held : Bool} {m : Nat} {v0 v1 v2 v3 : Value} {y : DataW H × List MemPlace}
    (h : DataW.trod enc Tryz.prog w 0 (fun _ => true) held m 27 [v0, v1, v2, v3] = some y) :
    ∃ (n1 n2 : Bool) (A B : Option Addr) (c e : Nat) (xs ys : List Nat), [v0, v1, v2, v3] = [.bool n1, .slice A xs.length c, .bool n2, .slice B ys.length e] ∧ Raw w A c xs ∧ Raw w B e ys ∧ ((DataW.weights Tryz.prog 27 y.1).all (· ≤ reachBytes) = true → xs.length ≤ 1152921504606846975 ∧ ys.length ≤ 1152921504606846975) := by
  obtain ⟨y0, y1, n, rfl, -, h0, h1⟩ := trod_struct2 Tryz.underlying27 h
  simp only [cells_api, List.drop_zero, List.drop_succ_cons, List.take_succ_cons, List.take_zero] at h0 h1
  obtain ⟨n1, A, c, xs, e1, r1, b1⟩ := open_int_cells h0
  obtain ⟨n2, B, e, ys, e2, r2, b2⟩ := open_int_cells h1
  simp only [List.cons.injEq, and_true] at e1 e2
  obtain ⟨rfl, rfl⟩ := e1
  obtain ⟨rfl, rfl⟩ := e2
  refine ⟨n1, n2, A, B, c, e, xs, ys, rfl, r1, r2, fun hs => ?_⟩
  simp only [DataW.weights, Tryz.underlying27, DataW.weightsEach, List.map_cons, List.map_nil, List.all_append, Bool.and_eq_true] at hs
  exact ⟨b1 hs.1, b2 hs.2.1⟩
/- A bench that came in, opened. -/
open Go.ChangeShapes Go.WideShapes Go.ChangeAt Go.RowKit Go.Joins

theorem cells_el : Tryz.prog.cellsOf 65 = 9 := by kernel_rfl
theorem bytes_el : Tryz.prog.bytesOf 65 = 136 := by kernel_rfl
theorem cells_kind : Tryz.prog.cellsOf 63 = 1 := by kernel_rfl
def FRaw.small (q : FRaw) : Prop := q.xs.length ≤ 1152921504606846975 ∧ q.ys.length ≤ 1152921504606846975
def ERaw.small (x : ERaw) : Prop := x.p.small ∧ x.q.small
theorem open_el_cells {H : Type} {enc : TypeId × Value → H} {w : World} {held : Bool} {m : Nat} {v0 v1 v2 v3 v4 v5 v6 v7 v8 : Value} {y : DataW H × List MemPlace}
    (h : DataW.trod enc Tryz.prog w 0 (fun _ => true) held m 65 [v0, v1, v2, v3, v4, v5, v6, v7, v8] = some y) :
    ∃ x : ERaw, [v0, v1, v2, v3, v4, v5, v6, v7, v8] = x.cells ∧ x.In w ∧ x.kind ≤ 255 ∧ ((DataW.weights Tryz.prog 65 y.1).all (· ≤ reachBytes) = true → x.small) := by
  obtain ⟨y0, y1, y2, n, rfl, -, h0, h1, h2⟩ := Go.Deep.trod_struct3 Tryz.underlying65 h
  simp only [cells_kind, cells_frac, List.drop_zero, List.drop_succ_cons, List.take_succ_cons, List.take_zero] at h0 h1 h2
  obtain ⟨z, e0, rfl, wz⟩ := DataW.trod_int Tryz.underlying63 h0
  simp at e0
  subst e0
  have bz := bounds_u8 wz
  obtain ⟨n1, n2, A, B, c, e, xs, ys, e1, r1, r2, b1⟩ := open_frac_cells h1
  obtain ⟨n3, n4, C, D, k, l, us, vs, e2, r3, r4, b2⟩ := open_frac_cells h2
  simp only [List.cons.injEq, and_true] at e1 e2
  obtain ⟨rfl, rfl, rfl, rfl⟩ := e1
  obtain ⟨rfl, rfl, rfl, rfl⟩ := e2
  refine ⟨⟨z.toNat, ⟨n1, A, c, xs, n2, B, e, ys⟩, ⟨n3, C, k, us, n4, D, l, vs⟩⟩, ?_, ⟨⟨r1, r2⟩, r3, r4⟩, by show z.toNat ≤ 255; omega, fun hs => ?_⟩
  · have hz : ((z.toNat : Nat) : Int) = z := by omega
    simp [ERaw.cells, FRaw.cells, hz]
  · simp only [DataW.weights, Tryz.underlying65, DataW.weightsEach, List.map_cons, List.map_nil, List.all_append, Bool.and_eq_true] at hs
    exact ⟨b1 hs.2.1, b2 hs.2.2.1⟩
theorem ERaw.cells_length (x : ERaw) : x.cells.length = 9 := rfl
theorem cellsEL_at : ∀ (l : List ERaw) (i r : Nat) (hi : i < l.length), r < 9 → (cellsEL l)[i * 9 + r]? = l[i].cells[r]?
  | [], i, r, hi, _ => by simp at hi
  | x :: l, 0, r, _, hr => by
    rw [cellsEL, List.flatMap_cons, List.getElem?_append_left (by rw [x.cells_length]; omega)]
    simp
  | x :: l, i + 1, r, hi, hr => by
    have ih := cellsEL_at l i r (by simpa using hi) hr
    rw [cellsEL, List.flatMap_cons, List.getElem?_append_right (by rw [x.cells_length]; omega), x.cells_length, show (i + 1) * 9 + r - 9 = i * 9 + r by omega]
    exact ih
theorem weightsAll_mem {H : Type} {P : Program} {e : TypeId} : ∀ {l : List (DataW H)} {d : DataW H}, d ∈ l → ∀ n ∈ d.weights P e, n ∈ DataW.weightsAll P e l
  | [], _, h, _, _ => by cases h
  | x :: l, d, h, n, hn => by
    rw [DataW.weightsAll, List.mem_append]
    rcases List.mem_cons.1 h with rfl | h
    · exact .inl hn
    · exact .inr (weightsAll_mem h n hn)
theorem open_bench {H : Type} {enc : TypeId × Value → H} {w : World} {held : Bool} {m : Nat} {v : Value} {y : DataW H × List MemPlace}
    (h : DataW.trod enc Tryz.prog w 0 (fun _ => true) held m 22 [v] = some y) :
    ∃ (A : Option Addr) (c : Nat) (l : List ERaw), v = .slice A l.length c ∧ BenchIn w w.heap.size A l ∧ l.length ≤ c ∧ c ≤ maxLen ∧ (∀ x ∈ l, x.kind ≤ 255) ∧ ((DataW.weights Tryz.prog 22 y.1).all (· ≤ reachBytes) = true → ∀ x ∈ l, x.small) ∧ ((DataW.weights Tryz.prog 22 y.1).all (· ≤ reachBytes) = true → l.length ≤ 4611686018427387904) := by
  rcases DataW.trod_slice Tryz.underlying22 h with ⟨e1, rfl⟩ | ⟨a, len, cap, elems, rest, n, -, e1, rfl, hb, hl, hm, hle, hc, -⟩
  · simp at e1
    subst e1
    exact ⟨none, 0, [], rfl, ⟨⟨rfl, fun h => absurd h (by simp)⟩, Nat.le_refl _, fun x hx => by cases hx⟩, Nat.le_refl _, Nat.zero_le _, (fun x hx => by cases hx), (fun _ x hx => by cases hx), fun _ => Nat.zero_le _⟩
  · simp at e1
    subst e1
    rw [cells_el] at hc
    have key : ∀ i (hi : i < len), ∃ x : ERaw, (∀ r, r < 9 → w.cell? ((a.add (i * 9)).add r) = x.cells[r]?) ∧ x.In w ∧ x.kind ≤ 255 ∧ ((DataW.weights Tryz.prog 65 (elems[i]'(by omega)).1).all (· ≤ reachBytes) = true → x.small) := by
      intro i hi
      have h1 := hc i hi
      rw [List.getElem?_eq_getElem (by omega)] at h1
      cases hcs : w.cells? 0 (a.add (i * 9)) 9 with
      | none => rw [hcs] at h1; cases h1
      | some cs =>
        rw [hcs] at h1
        obtain ⟨-, hlen, hcell⟩ := World.cells?_some hcs
        match cs, hlen with
        | [c0, c1, c2, c3, c4, c5, c6, c7, c8], _ =>
          obtain ⟨x, e9, hin, hk, hs⟩ := open_el_cells h1
          exact ⟨x, fun r hr => by rw [hcell r hr, e9], hin, hk, hs⟩
    refine ⟨some a, cap, List.ofFn fun i : Fin len => Classical.choose (key i.1 i.2), by rw [List.length_ofFn], ⟨⟨?_, fun h0 => ?_⟩, Nat.le_refl _, ?_⟩, by rw [List.length_ofFn]; exact hl, hm, ?_, ?_, ?_⟩
    · rw [cellsEL_length]
    · rw [List.length_ofFn] at h0
      refine ⟨a, rfl, ?_, fun j u hu => ?_⟩
      · have h1 := (Classical.choose_spec (key 0 h0)).1 0 (by decide)
        have h2 := lt_of_cell (h1.trans (show _ = some _ from rfl))
        exact h2
      · have hj : j < len * 9 := by
          have h1 := (List.getElem?_eq_some_iff.1 hu).1
          rw [cellsEL_length, List.length_ofFn] at h1
          exact h1
        have hi : j / 9 < len := by omega
        have e2 := cellsEL_at (List.ofFn fun i : Fin len => Classical.choose (key i.1 i.2)) (j / 9) (j % 9) (by rw [List.length_ofFn]; exact hi) (Nat.mod_lt _ (by decide))
        rw [show j / 9 * 9 + j % 9 = j by omega] at e2
        rw [e2, List.getElem_ofFn] at hu
        have h3 := (Classical.choose_spec (key (j / 9) hi)).1 (j % 9) (Nat.mod_lt _ (by decide))
        rw [Addr.add_add, show j / 9 * 9 + j % 9 = j by omega] at h3
        rw [h3]
        exact hu
    · intro x hx
      obtain ⟨i, rfl⟩ := (List.mem_ofFn).1 hx
      exact (Classical.choose_spec (key i.1 i.2)).2.1
    · intro x hx
      obtain ⟨i, rfl⟩ := (List.mem_ofFn).1 hx
      exact (Classical.choose_spec (key i.1 i.2)).2.2.1
    · intro hs x hx
      obtain ⟨i, rfl⟩ := (List.mem_ofFn).1 hx
      refine (Classical.choose_spec (key i.1 i.2)).2.2.2 (List.all_eq_true.2 fun n hn => ?_)
      refine List.all_eq_true.1 hs n ?_
      simp only [DataW.weights, Tryz.underlying22]
      refine List.mem_cons_of_mem _ (List.mem_append_left _ (weightsAll_mem (List.mem_map.2 ⟨_, List.getElem_mem _, rfl⟩) n hn))
    · intro hs
      rw [List.length_ofFn]
      simp only [DataW.weights, Tryz.underlying22, List.all_cons, Bool.and_eq_true] at hs
      have h1 := of_decide_eq_true hs.1
      rw [bytes_el, List.length_map, List.length_map] at h1
      unfold reachBytes at h1
      omega
/- What a bench and rays cost; Beyond of three. (Written by wip/top/gencosts.py.) -/
open Go.RowKit

theorem ray_cost {n1 n2 n3 n4 : Bool} {xs ys us vs : List Nat} (hl1 : xs.length ≤ 1152921504606846975) (hl2 : ys.length ≤ 1152921504606846975) (hl3 : us.length ≤ 1152921504606846975) (hl4 : vs.length ≤ 1152921504606846975) (w : World) (v_x : Value) (g_x : GaussRaw w v_x n1 n2 n3 n4 xs ys us vs)  :
    Calls Tryz.prog 8 #[v_x] w fun e w' => e = .returned (.int .i64 (fcost xs.length ys.length + fcost us.length vs.length : Nat)) ∧ Below w.heap.size w w' := by
  obtain ⟨Ax1, cx1, Ax2, cx2, Ax3, cx3, Ax4, cx4, rfl, -⟩ := g_x.form
  have D1 := fun (V : World) (h : Raw V Ax1 cx1 xs) (g : Raw V Ax2 cx2 ys) => frac_cost n1 n2 Ax1 Ax2 cx1 cx2 xs ys hl1 hl2 V h g
  have D2 := fun (V : World) (h : Raw V Ax3 cx3 us) (g : Raw V Ax4 cx4 vs) => frac_cost n3 n4 Ax3 Ax4 cx3 cx4 us vs hl3 hl4 V h g
  have b1 := fcost_le hl1 hl2
  have b2 := fcost_le hl3 hl4
  obtain ⟨s1, e1⟩ : ∃ k : Nat, k = fcost xs.length ys.length := ⟨_, rfl⟩
  obtain ⟨s2, e2⟩ : ∃ k : Nat, k = fcost us.length vs.length := ⟨_, rfl⟩
  rw [← e1] at D1 b1 ⊢
  rw [← e2] at D2 b2 ⊢
  obtain ⟨s3, e3⟩ : ∃ k : Nat, k = s1 + s2 := ⟨_, rfl⟩
  rw [← e3]
  have HW := Hd (show IntKind.i64.wrap ((s1 : Int) + (s2 : Int)) = (s3 : Int) from by rw [IntKind.wrap_i64]; omega)
  have H1 := Hd D1
  have H2 := Hd D2
  clear D1 D2 b1 b2 e1 e2 e3 hl1 hl2 hl3 hl4
  have G_x := Hd g_x
  clear g_x
  go_enter Tryz.func8, Tryz.ntmps8
  go_upto_region 1 with fail
  refine boxes1 (P := fun W => Code.wp _ _ _ _ W) fun W p0 b0 => ?_
  have P_x := Hd (Oct.mk p0)
  have HB := Hd b0
  clear b0 p0
  go_wp2_with fail
  refine wp_region_free [.val (.pointer (some ⟨w.heap.size, 0, none⟩)) [], .val (.agg #[.bool n1, .slice Ax1 xs.length cx1, .bool n2, .slice Ax2 ys.length cx2]) [], .val (.int .i64 s1) [], .val (.pointer (some ⟨w.heap.size, 4, none⟩)) [], .val (.agg #[.bool n3, .slice Ax3 us.length cx3, .bool n4, .slice Ax4 vs.length cx4]) [], .val (.int .i64 s2) [], .val (.int .i64 s3) [], .val (.int .i64 s3) []] W.heap.size W [] blkFrac _ mixedOrders2 (Nat.le_refl _) (Below.refl _ _) (KeptV.refl _ _ _) rfl (by kernel_rfl) (by kernel_rfl) (by kernel_rfl) (by kernel_rfl) (by kernel_rfl) (by kernel_rfl) (by kernel_rfl) (by kernel_rfl) rfl (by simp [oldsF]) ?_ ?_ ?_ ?_
  · simp only [StableF]
  · simp only [OldsF]
  · simp (maxSteps := 4000000) [StepsF, DepF, freeAct, fill, pairs]
    repeat' (first | apply And.intro | (intro (u : Value)) | (intro (u : Nat)))
    all_goals first
    | (intro V hV hK
       have hs_x := P_x.out.blk.lt
       have qx : Oct V (w.heap.size) _ _ _ _ _ _ _ _ _ := ⟨P_x.out.blk.below hV (by omega)⟩
       obtain ⟨-, a_x0, a_x1, a_x2, a_x3, a_x4, a_x5, a_x6, a_x7⟩ := qx.facts
       have hvb := HB.out.trans (hV.mono (by omega))
       have hvs := hvb.size
       have g_x := Hd (G_x.out.below hvb)
       clear hV hK qx
       go_simp
       first
       | exact Below.refl _ _
       | exact ⟨HW.out, Below.refl _ _⟩
       | ((with_reducible refine (H1.out V g_x.out.raws.1 g_x.out.raws.2.1).mono ?_); rintro e w' ⟨rfl, hb⟩; exact ⟨rfl, hb⟩)
       | ((with_reducible refine (H2.out V g_x.out.raws.2.2.1 g_x.out.raws.2.2.2).mono ?_); rintro e w' ⟨rfl, hb⟩; exact ⟨rfl, hb⟩))
  · simp [EndF, FactsF, freeAct, fill, pairs]
    intro V1 hV hK  _ _ _
    have P_x := Hd (P_x.out.below hV)
    have HB := Hd (belowTo HB.out hV)
    clear hV hK 
    go_wp2_with fail
    go_ret
    exact ⟨rfl, HB.out⟩

theorem el_cost0 {z : Int} {n1 n2 n3 n4 : Bool} {xs ys us vs : List Nat} (hl1 : xs.length ≤ 1152921504606846975) (hl2 : ys.length ≤ 1152921504606846975) (hl3 : us.length ≤ 1152921504606846975) (hl4 : vs.length ≤ 1152921504606846975) (w : World) {Ax1 Ax2 Ax3 Ax4 : Option Addr} {cx1 cx2 cx3 cx4 : Nat} (g_x : GaussRaw w (.agg #[.bool n1, .slice Ax1 xs.length cx1, .bool n2, .slice Ax2 ys.length cx2, .bool n3, .slice Ax3 us.length cx3, .bool n4, .slice Ax4 vs.length cx4]) n1 n2 n3 n4 xs ys us vs)  :
    Calls Tryz.prog 24 #[.agg #[.int .u8 z, .bool n1, .slice Ax1 xs.length cx1, .bool n2, .slice Ax2 ys.length cx2, .bool n3, .slice Ax3 us.length cx3, .bool n4, .slice Ax4 vs.length cx4]] w fun e w' => e = .returned (.int .i64 (fcost xs.length ys.length + fcost us.length vs.length : Nat)) ∧ Below w.heap.size w w' := by
  have D1 := fun (V : World) (h : Raw V Ax1 cx1 xs) (g : Raw V Ax2 cx2 ys) => frac_cost n1 n2 Ax1 Ax2 cx1 cx2 xs ys hl1 hl2 V h g
  have D2 := fun (V : World) (h : Raw V Ax3 cx3 us) (g : Raw V Ax4 cx4 vs) => frac_cost n3 n4 Ax3 Ax4 cx3 cx4 us vs hl3 hl4 V h g
  have b1 := fcost_le hl1 hl2
  have b2 := fcost_le hl3 hl4
  obtain ⟨s1, e1⟩ : ∃ k : Nat, k = fcost xs.length ys.length := ⟨_, rfl⟩
  obtain ⟨s2, e2⟩ : ∃ k : Nat, k = fcost us.length vs.length := ⟨_, rfl⟩
  rw [← e1] at D1 b1 ⊢
  rw [← e2] at D2 b2 ⊢
  obtain ⟨s3, e3⟩ : ∃ k : Nat, k = s1 + s2 := ⟨_, rfl⟩
  rw [← e3]
  have HW := Hd (show IntKind.i64.wrap ((s1 : Int) + (s2 : Int)) = (s3 : Int) from by rw [IntKind.wrap_i64]; omega)
  have H1 := Hd D1
  have H2 := Hd D2
  clear D1 D2 b1 b2 e1 e2 e3 hl1 hl2 hl3 hl4
  have G_x := Hd g_x
  clear g_x
  go_enter Tryz.func24, Tryz.ntmps24
  go_upto_region 1 with fail
  refine boxes1 (P := fun W => Code.wp _ _ _ _ W) fun W p0 b0 => ?_
  have P_x := Hd (Nine.mk p0)
  have HB := Hd b0
  clear b0 p0
  go_wp2_with fail
  refine wp_region_free [.val (.pointer (some ⟨w.heap.size, 1, none⟩)) [], .val (.agg #[.bool n1, .slice Ax1 xs.length cx1, .bool n2, .slice Ax2 ys.length cx2]) [], .val (.int .i64 s1) [], .val (.pointer (some ⟨w.heap.size, 5, none⟩)) [], .val (.agg #[.bool n3, .slice Ax3 us.length cx3, .bool n4, .slice Ax4 vs.length cx4]) [], .val (.int .i64 s2) [], .val (.int .i64 s3) [], .val (.int .i64 s3) []] W.heap.size W [] blkFrac _ mixedOrders2 (Nat.le_refl _) (Below.refl _ _) (KeptV.refl _ _ _) rfl (by kernel_rfl) (by kernel_rfl) (by kernel_rfl) (by kernel_rfl) (by kernel_rfl) (by kernel_rfl) (by kernel_rfl) (by kernel_rfl) rfl (by simp [oldsF]) ?_ ?_ ?_ ?_
  · simp only [StableF]
  · simp only [OldsF]
  · simp (maxSteps := 4000000) [StepsF, DepF, freeAct, fill, pairs]
    repeat' (first | apply And.intro | (intro (u : Value)) | (intro (u : Nat)))
    all_goals first
    | (intro V hV hK
       have hs_x := P_x.out.blk.lt
       have qx : Nine V (w.heap.size) _ _ _ _ _ _ _ _ _ _ := ⟨P_x.out.blk.below hV (by omega)⟩
       obtain ⟨-, a_x0, a_x1, a_x2, a_x3, a_x4, a_x5, a_x6, a_x7, a_x8⟩ := qx.facts
       have hvb := HB.out.trans (hV.mono (by omega))
       have hvs := hvb.size
       have g_x := Hd (G_x.out.below hvb)
       clear hV hK qx
       go_simp
       first
       | exact Below.refl _ _
       | exact ⟨HW.out, Below.refl _ _⟩
       | ((with_reducible refine (H1.out V g_x.out.raws.1 g_x.out.raws.2.1).mono ?_); rintro e w' ⟨rfl, hb⟩; exact ⟨rfl, hb⟩)
       | ((with_reducible refine (H2.out V g_x.out.raws.2.2.1 g_x.out.raws.2.2.2).mono ?_); rintro e w' ⟨rfl, hb⟩; exact ⟨rfl, hb⟩))
  · simp [EndF, FactsF, freeAct, fill, pairs]
    intro V1 hV hK  _ _ _
    have P_x := Hd (P_x.out.below hV)
    have HB := Hd (belowTo HB.out hV)
    clear hV hK 
    go_wp2_with fail
    go_ret
    exact ⟨rfl, HB.out⟩

theorem beyond_big3 (A : Option Addr) (c : Nat) (zs : List Nat) (hz : zs.length ≤ 1000) (hm : ∀ z ∈ zs, z ≤ 9000000000000000000) (w : World) (B : Nat) (hr : Reads w B 1 A zs.length (cellsI zs)) :
    Calls Tryz.prog 6 #[.slice A zs.length c] w fun e w' => e = .returned (.bool (decide (1048576 < zs.sum))) ∧ w = w' := by
  have HR := Hd hr
  have HM := Hd hm
  clear hr hm
  go_enter Tryz.func6, Tryz.ntmps6
  go_wp2_with fail
  go_loop [3, 4] (fun n i => ∃ k s : Nat, i = .int .i64 k ∧ n = .int .i64 s ∧ k ≤ zs.length ∧ s = (zs.take k).sum ∧ s ≤ 1048576) (fun _ i => zs.length - (intOf i).toNat)
  case atStart => exact ⟨0, 0, rfl, rfl, Nat.zero_le _, rfl, by omega⟩
  case round =>
    obtain ⟨k, s, rfl, rfl, hk, hs, hle⟩ := hrel
    have HS := Hd hs
    clear hs
    by_cases hlt : k < zs.length
    · obtain ⟨ad, rfl, -, hc⟩ := HR.out.2 (by omega)
      have hcell := hc k _ (cellsI_get hlt)
      have hz1 := HM.out zs[k] (List.getElem_mem hlt)
      have hs2 := sum_take_more zs k hlt
      rw [← HS.out] at hs2
      have HS2 := Hd hs2
      clear hc hs2
      generalize zs[k] = z at *
      by_cases hbig : s + z ≤ 1048576
      · go_wp2_with fail
        go_round
        case rel => exact ⟨k + 1, s + z, by go_num, by go_num, hlt, HS2.out.symm, hbig⟩
        case measure => simp [intOf]; omega
      · have hd : decide (1048576 < zs.sum) = true := by
          have h1 := sum_take_le zs (k + 1)
          rw [HS2.out] at h1
          simp; omega
        have HD := Hd hd
        clear hd
        have hbig2 : 1048576 < (s : Int) + (z : Int) := by omega
        clear hbig
        go_wp2
        go_ret
        exact ⟨by rw [HD.out]; rfl, rfl⟩
    · have hd : decide (1048576 < zs.sum) = false := by
        have h1 := HS.out
        rw [List.take_of_length_le (by omega)] at h1
        simp; omega
      have HD := Hd hd
      clear hd
      go_wp2
      go_ret
      exact ⟨by rw [HD.out]; rfl, rfl⟩
theorem beyond_of3 (ns : List Nat) (b : Bool) (hl : ns.length ≤ 1000) (hm : ∀ z ∈ ns, z ≤ 9000000000000000000) (hb : b = decide (1048576 < ns.sum)) (u : Value) (V : World) (h : SliceOf ns u V) :
    Calls Tryz.prog 6 #[u] V fun e w' => e = .returned (.bool b) ∧ Below V.heap.size V w' := by
  obtain ⟨g, t, rfl, h2⟩ := h.form
  subst hb
  refine (beyond_big3 (some ⟨g, 0, none⟩) ns.length ns hl hm V V.heap.size ?_).mono ?_
  · refine ⟨by rw [cellsI_length, Nat.mul_one], fun _ => ⟨_, rfl, h2.lt, fun j u hu => ?_⟩⟩
    rw [show (⟨g, 0, none⟩ : Addr).add j = ⟨g, j, none⟩ by unfold Addr.add; split <;> simp_all, h2.cell j, ← hu]
    simp
  · rintro e w' ⟨rfl, rfl⟩
    exact ⟨rfl, Below.refl _ _⟩
def costE : List Nat → Nat → Nat
  | [], n => n
  | c :: cs, n => if n ≤ 1048576 then costE cs (n + c) else n
theorem costE_sum : ∀ (cs : List Nat) (n : Nat), costE cs n ≤ 1048576 → n + cs.sum ≤ 1048576
  | [], n, h => by simpa [costE] using h
  | c :: cs, n, h => by
    unfold costE at h
    by_cases hn : n ≤ 1048576
    · rw [if_pos hn] at h
      have := costE_sum cs _ h
      rw [List.sum_cons]
      omega
    · rw [if_neg hn] at h
      omega
theorem costE_le {M : Nat} : ∀ (cs : List Nat) (n : Nat), (∀ c ∈ cs, c ≤ M) → n ≤ 1048576 + M → costE cs n ≤ 1048576 + M
  | [], n, _, hn => hn
  | c :: cs, n, h, hn => by
    unfold costE
    by_cases h1 : n ≤ 1048576
    · rw [if_pos h1]
      exact costE_le cs _ (fun x hx => h x (List.mem_cons_of_mem _ hx)) (by have := h c (List.mem_cons_self ..); omega)
    · rw [if_neg h1]
      exact hn
def ERaw.cost (x : ERaw) : Nat := fcost x.p.xs.length x.p.ys.length + fcost x.q.xs.length x.q.ys.length
theorem ERaw.cost_le {x : ERaw} (h : x.small) : x.cost ≤ 4611826755915743236 := by
  have h1 := fcost_le h.1.1 h.1.2
  have h2 := fcost_le h.2.1 h.2.2
  unfold ERaw.cost
  omega
theorem el_cost (x : ERaw) (w : World) (h : x.In w) (hs : x.small) : Calls Tryz.prog 24 #[x.val] w fun e w' => e = .returned (.int .i64 (x.cost : Nat)) ∧ Below w.heap.size w w' :=
  el_cost0 hs.1.1 hs.1.2 hs.2.1 hs.2.2 w ⟨_, _, _, _, _, _, _, _, rfl, h.1.1, h.1.2, h.2.1, h.2.2⟩

theorem els_cost (l : List ERaw) (cs : List Nat) (T : Nat) (A : Option Addr) (c : Nat) (hl : l.length ≤ 4611686018427387904) (hcs : cs.length = l.length) (hM : ∀ z ∈ cs, z ≤ 4611826755915743236) (hT : costE cs l.length = T) (w : World) (h : Reads w w.heap.size 9 A l.length (cellsEL l))
    (H : ∀ i (hi : i < l.length), ∀ V, Below w.heap.size w V → Calls Tryz.prog 24 #[l[i].val] V fun e w' => e = .returned (.int .i64 (cs.getD i 0 : Nat)) ∧ Below V.heap.size V w') :
    Calls Tryz.prog 7 #[.slice A l.length c] w fun e w' => e = .returned (.int .i64 T) ∧ Below w.heap.size w w' := by
  have HR := Hd h
  have HS := Hd H
  have HM := Hd hM
  have HC := Hd hcs
  have H0 := Hd (show costE (cs.drop 0) l.length = T from hT)
  clear h H hM hT hcs
  go_enter Tryz.func7, Tryz.ntmps7
  go_wp2_with fail
  go_loopw [3, 4] (fun s3 s4 wr => ∃ i n : Nat, s3 = .int .i64 n ∧ s4 = .int .i64 i ∧ i ≤ l.length ∧ n ≤ 4700000000000000000 ∧ Hid (costE (cs.drop i) n = T) ∧ Hid (Below w.heap.size w wr)) (fun _ s _ => l.length - (intOf s).toNat)
  case atStart => exact ⟨0, l.length, rfl, rfl, Nat.zero_le _, by omega, H0, Hd (Below.refl _ _)⟩
  case round =>
    obtain ⟨i, n, rfl, rfl, hi, hn, HN, HB⟩ := hrel
    clear H0
    by_cases hlt : i < l.length
    · have a1 : (i : Int) < (l.length : Int) := by omega
      by_cases hle : n ≤ 1048576
      · have a0 : (0 : Int) ≤ (i : Int) := by omega
        have a2 : (n : Int) ≤ 1048576 := by omega
        obtain ⟨e0, e1, e2, e3, e4, e5, e6, e7, e8⟩ := cellsEL_get l i hlt
        obtain ⟨ad, rfl, hbl, c0, c1, c2, c3, c4, c5, c6, c7, c8⟩ := (HR.out.below HB.out).row9 hlt e0 e1 e2 e3 e4 e5 e6 e7 e8
        have C := HS.out i hlt
        unfold ERaw.val at C
        have hc9 : i < cs.length := by rw [HC.out]; exact hlt
        have hm := HM.out _ (List.getElem_mem hc9)
        rw [List.getD_eq_getElem?_getD, List.getElem?_eq_getElem hc9, Option.getD_some] at C
        obtain ⟨c9, e9⟩ : ∃ z : Nat, z = cs[i] := ⟨_, rfl⟩
        rw [← e9] at C hm
        have hnew := HN.out
        rw [List.drop_eq_getElem_cons hc9, costE, if_pos hle, ← e9] at hnew
        obtain ⟨n9, e10⟩ : ∃ z : Nat, z = n + c9 := ⟨_, rfl⟩
        rw [← e10] at hnew
        have hw : IntKind.i64.wrap ((n : Int) + (c9 : Int)) = (n9 : Int) := by rw [IntKind.wrap_i64]; omega
        have hn9 : n9 ≤ 4700000000000000000 := by omega
        have HN9 := Hd hnew
        have C := Hd C
        clear e0 e1 e2 e3 e4 e5 e6 e7 e8 hbl hnew hm e9 e10 hc9
        go_wp2_with (first | (go_at_call 24; with_reducible refine (C.out _ HB.out).mono ?_; rintro e w' ⟨rfl, hb'⟩; have B1 := Hd (belowTo HB.out hb')))
        go_roundw
        case rel => exact ⟨i + 1, n9, rfl, by go_num, hlt, hn9, HN9, B1⟩
        case measure => simp [intOf]; omega
      · have a2 : ¬ ((n : Int) ≤ 1048576) := by omega
        have e9 := HN.out
        have hc9 : i < cs.length := by rw [HC.out]; exact hlt
        rw [List.drop_eq_getElem_cons hc9, costE, if_neg hle] at e9
        have HE := Hd e9
        clear e9 hc9
        go_wp2_with fail
        go_ret
        exact ⟨by rw [HE.out]; rfl, HB.out⟩
    · have e9 := HN.out
      have a1 : ¬ ((i : Int) < (l.length : Int)) := by omega
      rw [List.drop_eq_nil_of_le (by rw [HC.out]; omega), costE] at e9
      have HE := Hd e9
      clear e9
      go_wp2_with fail
      go_ret
      exact ⟨by rw [HE.out]; rfl, HB.out⟩
/- lives of the laws of chapter 02: the answers that the document fixes. (Written by wip/frac/genlives3.py.) -/

theorem frac_Make_ours (n d : Int) (A B : Option Addr) (c e0 : Nat) (w : World) (h : Raw w A c (natL n.natAbs)) (g : Raw w B e0 (natL d.natAbs)) (o1 : IntOwn w 0 (.agg #[.bool (decide (n < 0)), .slice A (natL n.natAbs).length c]) n) (o2 : IntOwn w 0 (.agg #[.bool (decide (d < 0)), .slice B (natL d.natAbs).length e0]) d) (hn : Fit n) (hd : Fit d) (hd0 : d ≠ 0) :
    Calls Tryz.prog 91 #[.agg #[.bool (decide (n < 0)), .slice A (natL n.natAbs).length c], .agg #[.bool (decide (d < 0)), .slice B (natL d.natAbs).length e0]] w (RetFracOwn2 w.heap.size w (lowN n d) (lowD n d) 0) := by
  have C1 := fun (V : World) (h : Raw V A c (natL n.natAbs)) => exact_Check_any (decide (n < 0)) A c _ V h
  have C2 := fun (V : World) (h : Raw V B e0 (natL d.natAbs)) => exact_Check_any (decide (d < 0)) B e0 _ V h
  unfold errI at C1 C2
  rw [if_pos hn.ok] at C1
  rw [if_pos hd.ok] at C2
  have hln : lz n ≤ 2048 := hn
  have hld : lz d ≤ 2048 := hd
  obtain ⟨s, hs⟩ : ∃ k : Int, k = d.sign := ⟨_, rfl⟩
  have C3 := fun (V : World) (h : Raw V B e0 (natL d.natAbs)) => esign d s B e0 V h hs
  have C4 := fun (V : World) (o1 : IntOwn V 0 (.agg #[.bool (decide (n < 0)), .slice A (natL n.natAbs).length c]) n) (o2 : IntOwn V 0 (.agg #[.bool (decide (d < 0)), .slice B (natL d.natAbs).length e0]) d) => elow n d A B c e0 V o1.rawAt o2.rawAt o1 o2 (by omega) (by omega) hd0
  have hl1 : lz (lowN n d) ≤ 2048 := Nat.le_trans (lowN_lz n d) hln
  have hl2 : lz (lowD n d) ≤ 2048 := Nat.le_trans (lowD_lz n d) hld
  have C5 := fun (V : World) (A' B' : Option Addr) (c' e' : Nat) (h : Raw V A' c' (natL (lowN n d).natAbs)) (g : Raw V B' e' (natL (lowD n d).natAbs)) => frac_answered_fits (lowN n d) (lowD n d) A' B' c' e' V h g hl1 hl2
  obtain ⟨p, hp⟩ : ∃ k : Int, k = lowN n d := ⟨_, rfl⟩
  obtain ⟨q, hq⟩ : ∃ k : Int, k = lowD n d := ⟨_, rfl⟩
  rw [← hp, ← hq] at C4 C5 ⊢
  have H1 := Hd C1
  have H2 := Hd C2
  have H3 := Hd C3
  have H4 := Hd C4
  have H5 := Hd C5
  have hs1 : decide (s = 0) = false := decide_eq_false (by rw [hs]; intro e; exact hd0 (Int.sign_eq_zero_iff_zero.1 e))
  have hs0 : (s == 0) = false := by simpa using hs1
  clear C1 C2 C3 C4 C5 hn hd hd0 hs hln hld hl1 hl2 hp hq
  have px := ((Pair.new w 25 (.bool (decide (n < 0))) (.slice A (natL n.natAbs).length c)).alloc (.cells #[.bool (decide (d < 0)), .slice B (natL d.natAbs).length e0] 25)).alloc (.cells #[.bool false, .slice none 0 0, .bool false, .slice none 0 0] 27)
  have py := (Pair.new (w.alloc (.cells #[.bool (decide (n < 0)), .slice A (natL n.natAbs).length c] 25)) 25 (.bool (decide (d < 0))) (.slice B (natL d.natAbs).length e0)).alloc (.cells #[.bool false, .slice none 0 0, .bool false, .slice none 0 0] 27)
  have pr := Quad.new ((w.alloc (.cells #[.bool (decide (n < 0)), .slice A (natL n.natAbs).length c] 25)).alloc (.cells #[.bool (decide (d < 0)), .slice B (natL d.natAbs).length e0] 25)) (.bool false) (.slice none 0 0) (.bool false) (.slice none 0 0)
  have b0 := (((Below.refl w.heap.size w).alloc (Nat.le_refl _) (.cells #[.bool (decide (n < 0)), .slice A (natL n.natAbs).length c] 25)).alloc (by simp) (.cells #[.bool (decide (d < 0)), .slice B (natL d.natAbs).length e0] 25)).alloc (by simp; omega) (.cells #[.bool false, .slice none 0 0, .bool false, .slice none 0 0] 27)
  simp only [World.size_alloc] at py pr
  have OX := Hd (o1.below b0)
  have OY := Hd (o2.below b0)
  have h1 := h.below b0
  have g1 := g.below b0
  have PX := Hd px
  have PY := Hd py
  have PR := Hd pr
  have B0 := Hd b0
  have RX := Hd h1
  have RY := Hd g1
  clear px py pr b0 h g h1 g1 o1 o2
  go_enter Tryz.func91, Tryz.ntmps91
  go_wp2_with fail
  obtain ⟨W, E⟩ : ∃ W, W = ((w.alloc (.cells #[.bool (decide (n < 0)), .slice A (natL n.natAbs).length c] 25)).alloc (.cells #[.bool (decide (d < 0)), .slice B (natL d.natAbs).length e0] 25)).alloc (.cells #[.bool false, .slice none 0 0, .bool false, .slice none 0 0] 27) := ⟨_, rfl⟩
  rw [← E] at PX PY PR B0 RX RY OX OY ⊢
  clear E
  have T0 := Below.refl W.heap.size W
  obtain ⟨l0, x0, x1, -, -⟩ := (PX.out.below T0).facts
  obtain ⟨m0, y0, y1, -, -⟩ := (PY.out.below T0).facts
  go_wp2_with fail
  refine (H1.out _ (RX.out.below T0)).mono ?_
  rintro e w1 ⟨rfl, h⟩
  have T1 := belowTo T0 h
  clear h x0 x1 y0 y1 l0 m0
  obtain ⟨l1, x0, x1, -, -⟩ := (PX.out.below T1).facts
  obtain ⟨m1, y0, y1, -, -⟩ := (PY.out.below T1).facts
  go_wp2_with fail
  refine (H2.out _ (RY.out.below T1)).mono ?_
  rintro e w2 ⟨rfl, h⟩
  have T2 := belowTo T1 h
  clear h x0 x1 y0 y1 l1 m1
  obtain ⟨l2, x0, x1, -, -⟩ := (PX.out.below T2).facts
  obtain ⟨m2, y0, y1, -, -⟩ := (PY.out.below T2).facts
  go_wp2_with fail
  refine (H3.out _ (RY.out.below T2)).mono ?_
  rintro e w3 ⟨rfl, h⟩
  have T3 := belowTo T2 h
  clear h x0 x1 y0 y1 l2 m2
  obtain ⟨l3, x0, x1, -, -⟩ := (PX.out.below T3).facts
  obtain ⟨m3, y0, y1, -, -⟩ := (PY.out.below T3).facts
  go_wp2_with fail
  refine (H4.out _ (OX.out.below T3) (OY.out.below T3)).mono ?_
  rintro e w4 ⟨v, rfl, hF, h⟩
  have T4 := belowTo T3 h
  clear h x0 x1 y0 y1 l3 m3
  obtain ⟨A', c', B', e', rfl, r1, r2⟩ := hF.at_.form
  clear hF
  go_wp2_with fail
  refine (H5.out _ A' B' c' e' r1 r2).mono ?_
  rintro e w5 ⟨v, rfl, hI, h⟩
  have T5 := belowTo T4 h
  have pr2 := PR.out.below T5
  have BB := belowTo B0.out T5
  have hsz := belowTo B0.out T4
  obtain ⟨A1, c1, A2, c2, rfl, -⟩ := hI.form
  obtain ⟨l5, z0, z1, z2, z3, f0, f1, f2, f3⟩ := pr2.facts
  clear r1 r2 h
  go_wp2_with fail
  have hq := pr2.store (.bool (decide (p < 0))) (.slice A1 (natL p.natAbs).length c1) (.bool (decide (q < 0))) (.slice A2 (natL q.natAbs).length c2)
  obtain ⟨_, k0, k1, k2, k3, _⟩ := hq.facts
  have hs9 := hsz.size
  exact bodyPost_ret (by simp [results, Tryz.results91, go_sem, k0, k1, k2, k3]) rfl ⟨_, rfl, (hI.quad pr2 _ _ _ _).base hs9, below4 BB (by omega) _ _ _ _⟩

theorem frac_Make_oz (n d : Int) (A B : Option Addr) (c e0 : Nat) (w : World) (h : Raw w A c (natL n.natAbs)) (g : Raw w B e0 (natL d.natAbs)) (o1 : IntOwn w 0 (.agg #[.bool (decide (n < 0)), .slice A (natL n.natAbs).length c]) n) (o2 : IntOwn w 0 (.agg #[.bool (decide (d < 0)), .slice B (natL d.natAbs).length e0]) d) (hn : Fit n) (hd : Fit d) :
    Calls Tryz.prog 91 #[.agg #[.bool (decide (n < 0)), .slice A (natL n.natAbs).length c], .agg #[.bool (decide (d < 0)), .slice B (natL d.natAbs).length e0]] w (RetFracOwn2 w.heap.size w (zN n d) (zD n d) (zE d)) := by
  unfold zN zD zE
  by_cases hy : d = 0
  · simp only [if_pos hy]
    exact frac_Make_nought n d A B c e0 w h g hn hd hy
  · simp only [if_neg hy]
    exact frac_Make_ours n d A B c e0 w h g o1 o2 hn hd hy

theorem frac_Of_ours (n d : Int) (n1 : -9223372036854775808 ≤ n) (n2 : n ≤ 9223372036854775807) (d1 : -9223372036854775808 ≤ d) (d2 : d ≤ 9223372036854775807) (w : World) :
    Calls Tryz.prog 59 #[.int .i64 n, .int .i64 d] w (RetFracOwn2 w.heap.size w (zN n d) (zD n d) (zE d)) := by
  have fn : Fit n := (okI_true.1 (ok64' n n1 n2)).1
  have fd : Fit d := (okI_true.1 (ok64' d d1 d2)).1
  have C3 := fun (V : World) (A B : Option Addr) (c e0 : Nat) (h : Raw V A c (natL n.natAbs)) (g : Raw V B e0 (natL d.natAbs)) (o1 : IntOwn V 0 (.agg #[.bool (decide (n < 0)), .slice A (natL n.natAbs).length c]) n) (o2 : IntOwn V 0 (.agg #[.bool (decide (d < 0)), .slice B (natL d.natAbs).length e0]) d) => frac_Make_oz n d A B c e0 V h g o1 o2 fn fd
  have C1 := fun (V : World) => eof n n rfl n1 n2 V
  have C2 := fun (V : World) => eof d d rfl d1 d2 V
  obtain ⟨p, hp⟩ : ∃ k : Int, k = zN n d := ⟨_, rfl⟩
  obtain ⟨q, hq⟩ : ∃ k : Int, k = zD n d := ⟨_, rfl⟩
  obtain ⟨k, hk⟩ : ∃ k : Int, k = zE d := ⟨_, rfl⟩
  rw [← hp, ← hq, ← hk] at C3 ⊢
  have H1 := Hd C1
  have H2 := Hd C2
  have H3 := Hd C3
  clear C1 C2 C3 fn fd n1 n2 d1 d2 hp hq hk
  have pr := Quad.new w (.bool false) (.slice none 0 0) (.bool false) (.slice none 0 0)
  have b0 := (Below.refl w.heap.size w).alloc (Nat.le_refl _) (.cells #[.bool false, .slice none 0 0, .bool false, .slice none 0 0] 27)
  have PR := Hd pr
  have B0 := Hd b0
  clear pr b0
  go_enter Tryz.func59, Tryz.ntmps59
  go_wp2_with fail
  refine (H1.out _).mono ?_
  rintro e w1 ⟨v, rfl, i1, h⟩
  have T1 := belowTo B0.out h
  have p1 := PR.out.below h
  obtain ⟨A, c, rfl, r1⟩ := i1.raw
  have o1 := Hd (i1.base (Nat.zero_le _))
  clear h i1
  go_wp2_with fail
  refine (H2.out _).mono ?_
  rintro e w2 ⟨v, rfl, i2, h⟩
  have T2 := belowTo T1 h
  have p2 := p1.below h
  obtain ⟨B, e0, rfl, r2⟩ := i2.raw
  have o1 := Hd (o1.out.below h)
  have o2 := Hd (i2.base (Nat.zero_le _))
  have r3 := r1.below h
  clear h i2 r1 p1 T1
  go_wp2_with fail
  refine (H3.out _ A B c e0 r3 r2 o1.out o2.out).mono ?_
  rintro e w3 ⟨v, rfl, hI, h⟩
  have T3 := belowTo T2 h
  have p3 := p2.below h
  have hsz := T2.size
  obtain ⟨A1, c1, A2, c2, rfl, -⟩ := hI.form
  obtain ⟨l5, z0, z1, z2, z3, f0, f1, f2, f3⟩ := p3.facts
  clear h r3 r2 p2 T2
  go_wp2_with fail
  have hq := p3.store (.bool (decide (p < 0))) (.slice A1 (natL p.natAbs).length c1) (.bool (decide (q < 0))) (.slice A2 (natL q.natAbs).length c2)
  obtain ⟨_, k0, k1, k2, k3, _⟩ := hq.facts
  exact bodyPost_ret (by simp [results, Tryz.results59, go_sem, k0, k1, k2, k3]) rfl ⟨_, rfl, (hI.quad p3 _ _ _ _).base hsz, below4 T3 (by omega) _ _ _ _⟩

/- known10: the document's first example. (Written by wip/top/genknown.py.) -/

theorem known_mat : benchM [⟨1, Rat.divInt 1 2, Rat.divInt 0 1⟩, ⟨2, Rat.divInt 2 1, Rat.divInt 0 1⟩] = ⟨1, Rat.divInt 1 2, -2, 0⟩ := by
  apply M2.ext <;> decide +kernel
theorem known_bench (V : World) (g : Nat) {A0 A1 A2 A3 A4 A5 A6 A7 : Option Addr} {c0 c1 c2 c3 c4 c5 c6 c7 : Nat} (hq : Blk V g 65 #[.int .u8 1, .bool (decide ((1 : Int) < 0)), .slice A0 (natL (Int.natAbs (1 : Int))).length c0, .bool (decide ((2 : Int) < 0)), .slice A1 (natL (Int.natAbs (2 : Int))).length c1, .bool (decide ((0 : Int) < 0)), .slice A2 (natL (Int.natAbs (0 : Int))).length c2, .bool (decide ((1 : Int) < 0)), .slice A3 (natL (Int.natAbs (1 : Int))).length c3, .int .u8 2, .bool (decide ((2 : Int) < 0)), .slice A4 (natL (Int.natAbs (2 : Int))).length c4, .bool (decide ((1 : Int) < 0)), .slice A5 (natL (Int.natAbs (1 : Int))).length c5, .bool (decide ((0 : Int) < 0)), .slice A6 (natL (Int.natAbs (0 : Int))).length c6, .bool (decide ((1 : Int) < 0)), .slice A7 (natL (Int.natAbs (1 : Int))).length c7]) (r0 : Raw V A0 c0 (natL (Int.natAbs 1))) (r1 : Raw V A1 c1 (natL (Int.natAbs 2))) (r2 : Raw V A2 c2 (natL (Int.natAbs 0))) (r3 : Raw V A3 c3 (natL (Int.natAbs 1))) (r4 : Raw V A4 c4 (natL (Int.natAbs 2))) (r5 : Raw V A5 c5 (natL (Int.natAbs 1))) (r6 : Raw V A6 c6 (natL (Int.natAbs 0))) (r7 : Raw V A7 c7 (natL (Int.natAbs 1))) :
    Calls Tryz.prog 11 #[.slice (some ⟨g, 0, none⟩) 2 2] V (RetMatIn2 V 1 1 1 2 (-2) 1 0 1 0) := by
  have hb : BenchIn V V.heap.size (some ⟨g, 0, none⟩) [⟨1, ⟨decide ((1 : Int) < 0), A0, c0, natL (Int.natAbs 1), decide ((2 : Int) < 0), A1, c1, natL (Int.natAbs 2)⟩, ⟨decide ((0 : Int) < 0), A2, c2, natL (Int.natAbs 0), decide ((1 : Int) < 0), A3, c3, natL (Int.natAbs 1)⟩⟩, ⟨2, ⟨decide ((2 : Int) < 0), A4, c4, natL (Int.natAbs 2), decide ((1 : Int) < 0), A5, c5, natL (Int.natAbs 1)⟩, ⟨decide ((0 : Int) < 0), A6, c6, natL (Int.natAbs 0), decide ((1 : Int) < 0), A7, c7, natL (Int.natAbs 1)⟩⟩] := by
    refine ⟨Reads.blk (cs := cellsEL [⟨1, ⟨decide ((1 : Int) < 0), A0, c0, natL (Int.natAbs 1), decide ((2 : Int) < 0), A1, c1, natL (Int.natAbs 2)⟩, ⟨decide ((0 : Int) < 0), A2, c2, natL (Int.natAbs 0), decide ((1 : Int) < 0), A3, c3, natL (Int.natAbs 1)⟩⟩, ⟨2, ⟨decide ((2 : Int) < 0), A4, c4, natL (Int.natAbs 2), decide ((1 : Int) < 0), A5, c5, natL (Int.natAbs 1)⟩, ⟨decide ((0 : Int) < 0), A6, c6, natL (Int.natAbs 0), decide ((1 : Int) < 0), A7, c7, natL (Int.natAbs 1)⟩⟩]) hq rfl, Nat.le_refl _, fun x hx => ?_⟩
    simp only [List.mem_cons, List.not_mem_nil, or_false] at hx
    rcases hx with rfl | rfl
    · exact ⟨⟨r0, r1⟩, r2, r3⟩
    · exact ⟨⟨r4, r5⟩, r6, r7⟩
  have hm : benchM (([⟨1, ⟨decide ((1 : Int) < 0), A0, c0, natL (Int.natAbs 1), decide ((2 : Int) < 0), A1, c1, natL (Int.natAbs 2)⟩, ⟨decide ((0 : Int) < 0), A2, c2, natL (Int.natAbs 0), decide ((1 : Int) < 0), A3, c3, natL (Int.natAbs 1)⟩⟩, ⟨2, ⟨decide ((2 : Int) < 0), A4, c4, natL (Int.natAbs 2), decide ((1 : Int) < 0), A5, c5, natL (Int.natAbs 1)⟩, ⟨decide ((0 : Int) < 0), A6, c6, natL (Int.natAbs 0), decide ((1 : Int) < 0), A7, c7, natL (Int.natAbs 1)⟩⟩] : List ERaw).map ERaw.el) = ⟨1, Rat.divInt 1 2, -2, 0⟩ := by
    rw [← known_mat]
    kernel_rfl
  have C := bmat_ok [⟨1, ⟨decide ((1 : Int) < 0), A0, c0, natL (Int.natAbs 1), decide ((2 : Int) < 0), A1, c1, natL (Int.natAbs 2)⟩, ⟨decide ((0 : Int) < 0), A2, c2, natL (Int.natAbs 0), decide ((1 : Int) < 0), A3, c3, natL (Int.natAbs 1)⟩⟩, ⟨2, ⟨decide ((2 : Int) < 0), A4, c4, natL (Int.natAbs 2), decide ((1 : Int) < 0), A5, c5, natL (Int.natAbs 1)⟩, ⟨decide ((0 : Int) < 0), A6, c6, natL (Int.natAbs 0), decide ((1 : Int) < 0), A7, c7, natL (Int.natAbs 1)⟩⟩] (some ⟨g, 0, none⟩) 2 V (by simp) hb (by kernel_rfl) (by show _ ≤ _; exact of_decide_eq_true (by kernel_rfl)) (by rw [hm]; decide +kernel)
  rw [hm] at C
  unfold RetM2 at C
  dsimp only at C
  rw [show (1 : Rat).num = 1 from rfl, show ((1 : Rat).den : Int) = 1 from rfl, show (Rat.divInt 1 2).num = 1 from by decide +kernel, show ((Rat.divInt 1 2).den : Int) = 2 from by decide +kernel, show (-2 : Rat).num = -2 from by decide +kernel, show ((-2 : Rat).den : Int) = 1 from by decide +kernel, show (0 : Rat).num = 0 from rfl, show ((0 : Rat).den : Int) = 1 from rfl] at C
  exact C
theorem known_fine : FineM ⟨1, Rat.divInt 1 2, -2, 0⟩ := ⟨FineQ.of (by decide +kernel) (by decide +kernel), FineQ.of (by decide +kernel) (by decide +kernel), FineQ.of (by decide +kernel) (by decide +kernel), FineQ.of (by decide +kernel) (by decide +kernel), by decide +kernel⟩
theorem known_ray (V : World) (v1 v2 : Value) (g1 : MatAt V v1 1 1 1 2 (-2) 1 0 1) (g2 : GaussAt V v2 0 1 1 1) : Calls Tryz.prog 15 #[v1, v2] V (RetGaussIn2 V 1 2 0 1 0) := by
  have e : rayM ⟨1, Rat.divInt 1 2, -2, 0⟩ (0, 1) = (Rat.divInt 1 2, 0) := by
    apply Prod.ext <;> decide +kernel
  have C := through_ok (r := (0, 1)) known_fine ⟨FineQ.of (by decide +kernel) (by decide +kernel), FineQ.of (by decide +kernel) (by decide +kernel)⟩ (by rw [e]; decide +kernel) V v1 v2
  rw [e] at C
  unfold RetR2 MAt RAt at C
  dsimp only at C
  rw [show (1 : Rat).num = 1 from rfl, show ((1 : Rat).den : Int) = 1 from rfl, show (Rat.divInt 1 2).num = 1 from by decide +kernel, show ((Rat.divInt 1 2).den : Int) = 2 from by decide +kernel, show (-2 : Rat).num = -2 from by decide +kernel, show ((-2 : Rat).den : Int) = 1 from by decide +kernel, show (0 : Rat).num = 0 from rfl, show ((0 : Rat).den : Int) = 1 from rfl] at C
  exact C g1 g2
theorem allocRay {o : Oper} (h : o.op = .alloc 29) : AllocF Tryz.prog o 29 8 := by
  refine ⟨#[.bool false, .slice none 0 0, .bool false, .slice none 0 0, .bool false, .slice none 0 0, .bool false, .slice none 0 0], rfl, fun ρ w => ?_⟩
  unfold execOp
  rw [h]
  kernel_rfl
theorem itoa_s (k : Nat) (hk : k < 10) : Lib.itoa (k : Int) = [UInt8.ofNat (48 + k)] := by
  rw [Lib.itoa_nonneg, Lib.decDigits_one hk]
theorem itoa_n (k : Nat) (h0 : 0 < k) (hk : k < 10) : Lib.itoa (-(k : Int)) = [45, UInt8.ofNat (48 + k)] := by
  rw [Lib.itoa_neg _ h0, Lib.decDigits_one hk]
theorem text_q {n d : Int} {t : ByteArray} (F : Fine n d) (ht : t = ⟨(fracText n d).toArray⟩) (hs : t.size ≤ 65536) (V : World) (v : Value) (hT : powTab V) (g : FracAt V v n d) : Calls Tryz.prog 27 #[v] V fun e w' => e = .returned (.string t) ∧ Below V.heap.size V w' :=
  text_w (fun W u h hT2 => by
    obtain ⟨A, c, B, e0, rfl, a1, a2⟩ := h.form
    exact frac_Text_good n d t A B c e0 W a1 a2 hT2 F.num F.den F.chk ht hs) V hT v g
theorem of_q2 (n d N D : Int) (n1 : -9223372036854775808 ≤ n) (n2 : n ≤ 9223372036854775807) (d1 : -9223372036854775808 ≤ d) (d2 : d ≤ 9223372036854775807) (hN : zN n d = N) (hD : zD n d = D) (V : World) : Calls Tryz.prog 26 #[.int .i64 n, .int .i64 d] V (RetFracIn V N D) := by
  subst hN hD
  exact of_w (fun W => frac_Of_ours n d n1 n2 d1 d2 W) V

theorem known10_true (w : World) (htab : powTab w) : Calls Tryz.prog 9 #[] w fun e w' => e = .returned (.bool true) ∧ Below w.heap.size w w' := by
  obtain ⟨o, ho⟩ : ∃ k : Int, k = 1 := ⟨_, rfl⟩
  obtain ⟨t, ht⟩ : ∃ k : Int, k = 2 := ⟨_, rfl⟩
  obtain ⟨z, hz⟩ : ∃ k : Int, k = 0 := ⟨_, rfl⟩
  obtain ⟨p, hp⟩ : ∃ k : Int, k = -2 := ⟨_, rfl⟩
  have H1 := Hd (show ∀ V : World, Calls Tryz.prog 26 #[.int .i64 1, .int .i64 2] V (RetFracIn V o t) from fun V => by rw [ho, ht]; exact of_q2 1 2 1 2 (by decide) (by decide) (by decide) (by decide) (by decide +kernel) (by decide +kernel) V)
  have H2 := Hd (show ∀ V : World, Calls Tryz.prog 26 #[.int .i64 0, .int .i64 1] V (RetFracIn V z o) from fun V => by rw [ho, hz]; exact of_q2 0 1 0 1 (by decide) (by decide) (by decide) (by decide) (by decide +kernel) (by decide +kernel) V)
  have H3 := Hd (show ∀ V : World, Calls Tryz.prog 26 #[.int .i64 2, .int .i64 1] V (RetFracIn V t o) from fun V => by rw [ho, ht]; exact of_q2 2 1 2 1 (by decide) (by decide) (by decide) (by decide) (by decide +kernel) (by decide +kernel) V)
  have H4 := Hd (show ∀ V : World, Calls Tryz.prog 26 #[.int .i64 1, .int .i64 1] V (RetFracIn V o o) from fun V => by rw [ho]; exact of_q2 1 1 1 1 (by decide) (by decide) (by decide) (by decide) (by decide +kernel) (by decide +kernel) V)
  have HM := Hd (show ∀ (V : World) (g : Nat) (A0 A1 A2 A3 A4 A5 A6 A7 : Option Addr) (c0 c1 c2 c3 c4 c5 c6 c7 : Nat), Blk V g 65 #[.int .u8 1, .bool (decide (o < 0)), .slice A0 (natL o.natAbs).length c0, .bool (decide (t < 0)), .slice A1 (natL t.natAbs).length c1, .bool (decide (z < 0)), .slice A2 (natL z.natAbs).length c2, .bool (decide (o < 0)), .slice A3 (natL o.natAbs).length c3, .int .u8 2, .bool (decide (t < 0)), .slice A4 (natL t.natAbs).length c4, .bool (decide (o < 0)), .slice A5 (natL o.natAbs).length c5, .bool (decide (z < 0)), .slice A6 (natL z.natAbs).length c6, .bool (decide (o < 0)), .slice A7 (natL o.natAbs).length c7] → Raw V A0 c0 (natL o.natAbs) → Raw V A1 c1 (natL t.natAbs) → Raw V A2 c2 (natL z.natAbs) → Raw V A3 c3 (natL o.natAbs) → Raw V A4 c4 (natL t.natAbs) → Raw V A5 c5 (natL o.natAbs) → Raw V A6 c6 (natL z.natAbs) → Raw V A7 c7 (natL o.natAbs) → Calls Tryz.prog 11 #[.slice (some ⟨g, 0, none⟩) 2 2] V (RetMatIn2 V o o o t p o z o 0) from by
    subst ho ht hz hp
    intro V g _ _ _ _ _ _ _ _ _ _ _ _ _ _ _ _ hq r0 r1 r2 r3 r4 r5 r6 r7
    exact known_bench V g hq r0 r1 r2 r3 r4 r5 r6 r7)
  have HR := Hd (show ∀ (V : World) (v1 v2 : Value), MatAt V v1 o o o t p o z o → GaussAt V v2 z o o o → Calls Tryz.prog 15 #[v1, v2] V (RetGaussIn2 V o t z o 0) from by
    subst ho ht hz hp
    exact known_ray)
  have T1 := Hd (show ∀ (V : World) (v : Value), powTab V → FracAt V v o t → Calls Tryz.prog 27 #[v] V fun e w' => e = .returned (.string ⟨#[49, 47, 50]⟩) ∧ Below V.heap.size V w' from fun V v hT g => by
    subst ho ht
    refine text_q (show Fine 1 2 from (Is.of (Rat.divInt 1 2)).fine (by decide +kernel) (by decide +kernel)) ?_ (by decide) V v hT g
    unfold fracText
    rw [if_neg (by decide), show (1 : Int) = ((1 : Nat) : Int) from rfl, show (2 : Int) = ((2 : Nat) : Int) from rfl, itoa_s 1 (by decide), itoa_s 2 (by decide)]
    rfl)
  have T2 := Hd (show ∀ (V : World) (v : Value), powTab V → FracAt V v p o → Calls Tryz.prog 27 #[v] V fun e w' => e = .returned (.string ⟨#[45, 50]⟩) ∧ Below V.heap.size V w' from fun V v hT g => by
    subst ho hp
    refine text_q (show Fine (-2) 1 from (Is.of (-2 : Rat)).fine (by decide +kernel) (by decide +kernel)) ?_ (by decide) V v hT g
    unfold fracText
    rw [if_pos rfl, show (-2 : Int) = -((2 : Nat) : Int) from rfl, itoa_n 2 (by decide) (by decide)]
    rfl)
  have T3 := Hd (show ∀ (V : World) (v : Value), powTab V → FracAt V v z o → Calls Tryz.prog 27 #[v] V fun e w' => e = .returned (.string ⟨#[48]⟩) ∧ Below V.heap.size V w' from fun V v hT g => by
    subst ho hz
    refine text_q (show Fine 0 1 from (Is.of (0 : Rat)).fine (by decide +kernel) (by decide +kernel)) ?_ (by decide) V v hT g
    unfold fracText
    rw [if_pos rfl, show (0 : Int) = ((0 : Nat) : Int) from rfl, itoa_s 0 (by decide)]
    rfl)
  have HT := Hd htab
  clear ho ht hz hp htab
  go_enter Tryz.func9, Tryz.ntmps9
  go_wp2_with fail
  refine (H1.out w).mono ?_
  rintro e w1 ⟨v, rfl, h0, b0⟩
  obtain ⟨A0, c0, A1, c1, rfl, -⟩ := h0.form
  go_wp2_with fail
  refine (H2.out w1).mono ?_
  rintro e w2 ⟨v, rfl, h1, b1⟩
  obtain ⟨A2, c2, A3, c3, rfl, -⟩ := h1.form
  go_wp2_with fail
  refine (H3.out w2).mono ?_
  rintro e w3 ⟨v, rfl, h2, b2⟩
  obtain ⟨A4, c4, A5, c5, rfl, -⟩ := h2.form
  go_wp2_with fail
  refine (H2.out w3).mono ?_
  rintro e w4 ⟨v, rfl, h3, b3⟩
  obtain ⟨A6, c6, A7, c7, rfl, -⟩ := h3.form
  have HB := Hd (belowTo (belowTo (belowTo b0 b1) b2) b3)
  have R0 := h0.raws
  have R1 := h1.raws
  have R2 := h2.raws
  have R3 := h3.raws
  have HX := Hd (And.intro (And.intro (And.intro (R0.1.below (belowTo (belowTo b1 b2) b3)) (R0.2.below (belowTo (belowTo b1 b2) b3))) (And.intro (R1.1.below (belowTo b2 b3)) (R1.2.below (belowTo b2 b3)))) (And.intro (And.intro (R2.1.below b3) (R2.2.below b3)) (And.intro R3.1 R3.2)))
  clear b0 b1 b2 b3 R0 R1 R2 R3 h0 h1 h2 h3
  go_upto_region 2 with fail
  refine boxes1 (P := fun W => Code.wp _ _ _ _ W) fun W hq ha => ?_
  have hx := HX.out
  have HB := Hd (belowTo HB.out ha)
  have C := Hd (HM.out W _ _ _ _ _ _ _ _ _ _ _ _ _ _ _ _ _ hq (hx.1.1.1.below ha) (hx.1.1.2.below ha) (hx.1.2.1.below ha) (hx.1.2.2.below ha) (hx.2.1.1.below ha) (hx.2.1.2.below ha) (hx.2.2.1.below ha) (hx.2.2.2.below ha))
  clear hx HX hq ha HM
  go_wp2_with fail
  refine C.out.mono ?_
  rintro e w5 ⟨v, rfl, hv, hb⟩
  have HB := Hd (belowTo HB.out hb)
  obtain ⟨B0, e0, B1, e1, B2, e2, B3, e3, B4, e4, B5, e5, B6, e6, B7, e7, rfl, -⟩ := hv.form
  clear hb C
  go_upto_region 3 with (refine wpList_store_N rfl 38 _ _ (by rfl) (by rfl) _ _ _ 16 (by rfl) (by rfl) (Blk.new w5 _ _) rfl hv.cells matInfo ?_; intro w6 hput)
  have hb := hput.below ((Below.refl w5.heap.size w5).alloc (Nat.le_refl _) _) (Nat.le_refl _)
  have hq := hput.blk
  simp [Value.cells] at hq
  have PM := Hd (Hex.mk hq)
  have HV := Hd (hv.below hb)
  have HB := Hd (belowTo HB.out hb)
  clear hput hb hq hv
  go_wp2_with fail
  refine wp_region_free [.val (.agg #[.bool (decide (o < 0)), .slice B0 (natL o.natAbs).length e0, .bool (decide (o < 0)), .slice B1 (natL o.natAbs).length e1, .bool (decide (o < 0)), .slice B2 (natL o.natAbs).length e2, .bool (decide (t < 0)), .slice B3 (natL t.natAbs).length e3, .bool (decide (p < 0)), .slice B4 (natL p.natAbs).length e4, .bool (decide (o < 0)), .slice B5 (natL o.natAbs).length e5, .bool (decide (z < 0)), .slice B6 (natL z.natAbs).length e6, .bool (decide (o < 0)), .slice B7 (natL o.natAbs).length e7]) [], .any false (fun u V => FracIn V 0 u z o) [], .any false (fun u V => FracIn V 0 u o o) [], .any false (fun u V => GaussIn V u z o o o) [1, 2], .any false (fun u V => TupGI V u o t z o 0) [3], .any false (fun u V => TupGI V u o t z o 0) [4], .any false (fun u V => GaussIn V u o t z o) [5], .val (.int .i64 0) [5], .new 29 8, .put 29 8 8 6 [], .val (.int .i64 0) [7]] w6.heap.size w6 [29] (fun _ _ => False) _ mixedOrders2 (Nat.le_refl _) (Below.refl _ _) (KeptV.refl _ _ _) rfl (by kernel_rfl) (by kernel_rfl) (by kernel_rfl) (by kernel_rfl) (by kernel_rfl) (by kernel_rfl) (by kernel_rfl) (by kernel_rfl) rfl (by simp [oldsF]) ?_ ?_ ?_ ?_
  · simp only [StableF, and_true]
    exact ⟨fun u V V' h k => h.kept k (by decide), fun u V V' h k => h.kept k (by decide), fun u V V' h k => h.kept k (by decide), fun u V V' h k => h.kept k (by decide), fun u V V' h k => h.kept k (by decide), fun u V V' h k => h.kept k (by decide)⟩
  · simp only [OldsF]
  · simp (maxSteps := 4000000) [StepsF, DepF, freeAct, fill, pairs]
    repeat' (first | apply And.intro | (intro (u : Value)) | (intro (u : Nat)))
    all_goals try exact ⟨_, _, _, rfl, rfl, rfl, rfl, rayInfo⟩
    all_goals try exact allocRay rfl
    all_goals first
    | (intro V hV hK
       obtain ⟨-, x0, x1, x2, x3, x4, x5, x6, x7, x8, x9, x10, x11, x12, x13, x14, x15⟩ := (PM.out.below hV).facts
       clear hV hK
       go_simp
       first
       | exact Below.refl _ _
       | ((with_reducible refine (H2.out V).mono ?_); rintro e w' ⟨v, rfl, hv, hb⟩; exact ⟨hv, hb⟩)
       | ((with_reducible refine (H4.out V).mono ?_); rintro e w' ⟨v, rfl, hv, hb⟩; exact ⟨hv, hb⟩))
    | exact fun _ _ _ h => GaussIn.cells h
    | exact fun _ _ _ h _ => GaussIn.cells h
    | (intro V hV hK h1 h2
       obtain ⟨A1, c1, B1, e1, rfl, -⟩ := h1.form
       obtain ⟨A2, c2, B2, e2, rfl, -⟩ := h2.form
       clear hV hK
       go_simp
       exact ⟨⟨_, _, _, _, _, _, _, _, rfl, h1, h2⟩, Below.refl _ _⟩)
    | (intro V hV hK h1
       have gm := (HV.out.below hV).at_
       clear hV hK
       go_simp
       (with_reducible refine (HR.out V _ _ gm h1.at_).mono ?_); rintro e w' ⟨v, rfl, hv, hb⟩; exact ⟨⟨v, rfl, hv⟩, hb⟩)
    | (intro V hV hK h1
       obtain ⟨v, rfl, hv⟩ := h1.form
       clear hV hK
       go_simp
       first
       | exact ⟨hv, Below.refl _ _⟩
       | exact ⟨⟨_, rfl, hv⟩, Below.refl _ _⟩
       | exact Below.refl _ _)
  · simp [EndF, FactsF, freeAct, fill, pairs]
    intro u1 u2 u3 u4 u5 u6 b9 hb9 V hV hK _ _ _ _ _ h6 p9 _ _ _
    obtain ⟨D0, k0, D1, k1, D2, k2, D3, k3, rfl, -⟩ := h6.form
    have PM := Hd (PM.out.below hV)
    have PR := Hd (show Oct V b9 29 _ _ _ _ _ _ _ _ from ⟨p9⟩)
    have HV := Hd (HV.out.below hV)
    have HG := Hd h6
    have HB := Hd (belowTo HB.out hV)
    have HT := Hd (HT.out.below2 HB.out)
    clear hV hK h6 p9 hb9 H1 H2 H3 H4 HR
    obtain ⟨-, x0, x1, x2, x3, x4, x5, x6, x7, x8, x9, x10, x11, x12, x13, x14, x15⟩ := PM.out.facts
    obtain ⟨-, y0, y1, y2, y3, y4, y5, y6, y7⟩ := PR.out.facts
    go_wp2_with fail
    refine (T1.out V _ HT.out HV.out.at_.fb).mono ?_
    rintro e wt1 ⟨rfl, hb⟩
    clear x0 x1 x2 x3 x4 x5 x6 x7 x8 x9 x10 x11 x12 x13 x14 x15 y0 y1 y2 y3 y4 y5 y6 y7
    have PM := Hd (PM.out.below hb)
    have PR := Hd (PR.out.below hb)
    have HV := Hd (HV.out.below hb)
    have HG := Hd (HG.out.below hb)
    have HB := Hd (belowTo HB.out hb)
    have HT := Hd (HT.out.below2 hb)
    clear hb
    obtain ⟨-, x0, x1, x2, x3, x4, x5, x6, x7, x8, x9, x10, x11, x12, x13, x14, x15⟩ := PM.out.facts
    obtain ⟨-, y0, y1, y2, y3, y4, y5, y6, y7⟩ := PR.out.facts
    go_wp2_with fail
    refine (T2.out wt1 _ HT.out HV.out.at_.fc).mono ?_
    rintro e wt2 ⟨rfl, hb⟩
    clear x0 x1 x2 x3 x4 x5 x6 x7 x8 x9 x10 x11 x12 x13 x14 x15 y0 y1 y2 y3 y4 y5 y6 y7
    have PM := Hd (PM.out.below hb)
    have PR := Hd (PR.out.below hb)
    have HV := Hd (HV.out.below hb)
    have HG := Hd (HG.out.below hb)
    have HB := Hd (belowTo HB.out hb)
    have HT := Hd (HT.out.below2 hb)
    clear hb
    obtain ⟨-, x0, x1, x2, x3, x4, x5, x6, x7, x8, x9, x10, x11, x12, x13, x14, x15⟩ := PM.out.facts
    obtain ⟨-, y0, y1, y2, y3, y4, y5, y6, y7⟩ := PR.out.facts
    go_wp2_with fail
    refine (T1.out wt2 _ HT.out HG.out.at_.re).mono ?_
    rintro e wt3 ⟨rfl, hb⟩
    clear x0 x1 x2 x3 x4 x5 x6 x7 x8 x9 x10 x11 x12 x13 x14 x15 y0 y1 y2 y3 y4 y5 y6 y7
    have PM := Hd (PM.out.below hb)
    have PR := Hd (PR.out.below hb)
    have HV := Hd (HV.out.below hb)
    have HG := Hd (HG.out.below hb)
    have HB := Hd (belowTo HB.out hb)
    have HT := Hd (HT.out.below2 hb)
    clear hb
    obtain ⟨-, x0, x1, x2, x3, x4, x5, x6, x7, x8, x9, x10, x11, x12, x13, x14, x15⟩ := PM.out.facts
    obtain ⟨-, y0, y1, y2, y3, y4, y5, y6, y7⟩ := PR.out.facts
    go_wp2_with fail
    refine (T3.out wt3 _ HT.out HG.out.at_.im).mono ?_
    rintro e wt4 ⟨rfl, hb⟩
    clear x0 x1 x2 x3 x4 x5 x6 x7 x8 x9 x10 x11 x12 x13 x14 x15 y0 y1 y2 y3 y4 y5 y6 y7
    have PM := Hd (PM.out.below hb)
    have PR := Hd (PR.out.below hb)
    have HV := Hd (HV.out.below hb)
    have HG := Hd (HG.out.below hb)
    have HB := Hd (belowTo HB.out hb)
    have HT := Hd (HT.out.below2 hb)
    clear hb
    go_wp2_with fail
    go_ret
    exact ⟨rfl, HB.out⟩
end Go.Proofs.YtmcnmoljliggfaaGreatDoor
